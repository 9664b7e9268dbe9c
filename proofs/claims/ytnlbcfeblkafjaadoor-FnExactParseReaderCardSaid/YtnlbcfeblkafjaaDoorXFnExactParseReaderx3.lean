-- Written by a program of this session: the machine side of the law FnExactParseReader, with contracts proved by hand for what the kit's print doesn't take. Lean checks it.
import Derived.Test.YtnlbcfeblkafjaaDoorXFnExactParseReaderx0
import Derived.Test.YtnlbcfeblkafjaaDoorXFnExactParseReaderx1
import Derived.Test.YtnlbcfeblkafjaaDoorXFnExactParseReaderx2
namespace Go.Proofs.YtnlbcfeblkafjaaDoor.XFnExactParseReader
open Go.RowKit Go.Proofs.YtnlbcfeblkafjaaDoorW.PrintWords Go.Proofs.YtnlbcfeblkafjaaDoorW.PrintLast Go.Proofs.YtnlbcfeblkafjaaDoorW.PrintMore
attribute [local go_sem] max2_int min2_int max_two min_two max_three min_three max_four min_four   -- for this text's walks alone
set_option linter.unusedVariables false
set_option linter.unusedSimpArgs false

/-! ### spec_rdParse: function 15 -/
def spec_rdParse.j0 : Nat → ByteArray → List ByteArray → Bool → Option (Int × Int × Int × Bool)
  | 0, _, _, _ => none
  | k + 1, x0, x4, x16 => if x16 = true then (some (0, 0, 0, false)) else (if 1 < (x4.length : Int) then ((spec_l1Split.f k (rdOf ByteArray.empty x4 1) 47).bind fun t128 => (if 0 < (x4.length : Int) then ((spec_l1Read.f k (rdOf ByteArray.empty x4 0)).bind fun t132 => (if 0 < (t128.length : Int) then ((spec_l1Read.f k (rdOf ByteArray.empty t128 0)).bind fun t134 => (if (t128.length : Int) = 2 then (if 1 < (t128.length : Int) then ((spec_l1Read.f k (rdOf ByteArray.empty t128 1)).bind fun t137 => (if (t128.length : Int) < 3 then ((spec_rdGood.f t132 t134 t137).bind fun t138 => (if t138 = true then ((spec_rdText.f k t132 t134 t137).bind fun t139 => (some (t132, t134, t137, (t139.toList == x0.toList)))) else (some (t132, t134, t137, false)))) else (some (t132, t134, t137, false)))) else (none)) else (if (t128.length : Int) < 3 then ((spec_rdGood.f t132 t134 0).bind fun t140 => (if t140 = true then ((spec_rdText.f k t132 t134 0).bind fun t141 => (some (t132, t134, 0, (t141.toList == x0.toList)))) else (some (t132, t134, 0, false)))) else (some (t132, t134, 0, false))))) else (none))) else (none))) else (none))
def spec_rdParse.f (k : Nat) (a0 : ByteArray) : Option (Int × Int × Int × Bool) := (spec_l1Split.f k a0 43).bind fun t124 => (if (a0.size : Int) > 11 then (spec_rdParse.j0 k a0 t124 true) else (spec_rdParse.j0 k a0 t124 ((t124.length : Int) != 2)))
theorem spec_rdParse.mono_l : ∀ k, (∀ y0 y1 y2, LeO (spec_rdParse.j0 k y0 y1 y2) (spec_rdParse.j0 (k + 1) y0 y1 y2))
  | 0 => fun _ _ _ r h => by simp [spec_rdParse.j0] at h
  | k + 1 => by
    have ih0 := spec_rdParse.mono_l k
    · intro y0 y1 y2
      unfold spec_rdParse.j0
      repeat' first
      | (with_reducible exact ih0 _ _ _)
      | (with_reducible exact spec_l1Read.mono _ _)
      | (with_reducible exact spec_l1Split.mono _ _ _)
      | (with_reducible exact spec_rdText.mono _ _ _ _)
      | (with_reducible exact LeO.refl _)
      | (with_reducible exact LeO.none _)
      | (with_reducible refine LeO.ite ?_ ?_)
      | (with_reducible refine LeO.bind ?_ (fun _ => ?_))
      | exact ih0 _ _ _
      | exact spec_l1Read.mono _ _
      | exact spec_l1Split.mono _ _ _
      | exact spec_rdText.mono _ _ _ _
      | exact LeO.none _
      | refine LeO.ite ?_ ?_
      | refine LeO.bind ?_ (fun _ => ?_)
theorem spec_rdParse.mono : ∀ a0 k, LeO (spec_rdParse.f k a0) (spec_rdParse.f (k + 1) a0) := by
  intro a0 k
  have ih0 := spec_rdParse.mono_l k
  unfold spec_rdParse.f
  repeat' first
      | (with_reducible exact ih0 _ _ _)
      | (with_reducible exact spec_l1Read.mono _ _)
      | (with_reducible exact spec_l1Split.mono _ _ _)
      | (with_reducible exact spec_rdText.mono _ _ _ _)
      | (with_reducible exact LeO.refl _)
      | (with_reducible exact LeO.none _)
      | (with_reducible refine LeO.ite ?_ ?_)
      | (with_reducible refine LeO.bind ?_ (fun _ => ?_))
      | exact ih0 _ _ _
      | exact spec_l1Read.mono _ _
      | exact spec_l1Split.mono _ _ _
      | exact spec_rdText.mono _ _ _ _
      | exact LeO.none _
      | refine LeO.ite ?_ ?_
      | refine LeO.bind ?_ (fun _ => ?_)
def spec_rdParse.T5 : Bool × List (List Nat × List Nat) := (true, [([], []), ([0], [0]), ([1], [1]), ([2], [2]), ([], []), ([4], [4]), ([5], [5]), ([6, 3], [6]), ([3, 7], [3, 7]), ([], []), ([9, 8, 7, 0, 1, 2, 3, 4, 5, 6, 7, 8, 9], [8, 9])])
def spec_rdParse.B5 : List Nat := [0, 1, 3, 7, 0, 16, 48, 127, 255, 0, 1023]
theorem spec_rdParse.tab5 : rtab .any (opsOf Tryd.f15 5) = spec_rdParse.T5 := by kernel_rfl
theorem spec_rdParse.bits5 : waitsOk spec_rdParse.T5.2 spec_rdParse.B5 = true := by kernel_rfl
def spec_rdParse.T8 : Bool × List (List Nat × List Nat) := (true, [([], []), ([], []), ([1], [1]), ([2], [2]), ([3], [3]), ([4], [4]), ([5, 4, 4], [4, 5]), ([4, 6], [4, 6]), ([7, 6], [7]), ([8], [8]), ([9, 8, 8], [8, 9]), ([8], [8]), ([10, 11, 8], [8, 10, 11]), ([8, 12], [8, 12]), ([0, 10, 0], [0]), ([13, 14, 0, 1, 2, 3, 4, 5, 6, 7, 8, 9, 10, 11, 12, 13, 14], [13])])
def spec_rdParse.B8 : List Nat := [0, 0, 2, 6, 14, 30, 62, 126, 254, 510, 1022, 510, 4094, 8190, 2047, 32767]
theorem spec_rdParse.tab8 : rtab .any (opsOf Tryd.f15 8) = spec_rdParse.T8 := by kernel_rfl
theorem spec_rdParse.bits8 : waitsOk spec_rdParse.T8.2 spec_rdParse.B8 = true := by kernel_rfl
-- short names of laws that the text below names again and again
theorem zA {l : List Value} {i : Nat} {a : Value} : l.toArray.setIfInBounds i a = (l.set i a).toArray := by simp only [List.setIfInBounds_toArray]
theorem zB {x b : Value} {l : List Value} : (x :: l).set 0 b = b :: l := List.set_cons_zero
theorem zC {x b : Value} {l : List Value} {n : Nat} : (x :: l).set (n + 1) b = x :: l.set n b := List.set_cons_succ
theorem zD {w : World} {g : Nat} {o : Obj} (h : w.heap[g]? = some o) (n : Nat) : (w.drewN n).heap[g]? = some o := blk_drewN h n
theorem zE {w : World} {g : Nat} {o : Obj} (h : w.heap[g]? = some o) (o' : Obj) : (w.alloc o').heap[g]? = some o := blk_alloc h o'
theorem zF {w : World} {g : Nat} {o : Obj} (h : w.heap[g]? = some o) : w.drew.heap[g]? = some o := blk_drew h
theorem zG {B : Nat} {w W : World} (h : Below B w W) (n : Nat) : Below B w (W.drewN n) := pw_below_drewN h n
theorem zH {base : Nat} {w W : World} (h : Below base w W) : Below base w W.drew := below_drew1 h
theorem zI {p : Prop} (h : p) : Aside0 p := Aside0.mk h
theorem zJ {w W : World} (h : Below w.heap.size w W) (o : Obj) : Below w.heap.size w (W.alloc o) := below_alloc h o
theorem zK {w W : World} {g j : Nat} {v : Value} (h : Below w.heap.size w W) (hg : w.heap.size ≤ g) : Below w.heap.size w (W.setCell ⟨g, j, none⟩ v) := below_set h hg
set_option maxHeartbeats 8000000 in
set_option maxRecDepth 100000 in
theorem spec_rdParse.calls (k : Nat) (a0 : ByteArray) (r1 : Int) (r2 : Int) (r3 : Int) (r4 : Bool) (w : World) (h : spec_rdParse.f k a0 = some (r1, r2, r3, r4)) :
    Calls Tryd.prog 15 #[.string a0] w fun e w' => e = .returned (.tuple #[.agg #[.int .i64 r1, .int .i64 r2, .int .i64 r3], .bool r4]) ∧ Below w.heap.size w w' := by
 have hu26:=Tryd.underlying26
 have HB:=zI (Below.refl w.heap.size w)
 have H : ((spec_l1Split.f k a0 43).bind fun t124=>(if (a0.size : Int) > 11 then (spec_rdParse.j0 k a0 t124 true) else (spec_rdParse.j0 k a0 t124 ((t124.length : Int) != 2)))) = some (r1,r2,r3,r4):=h
 clear h;replace H:=Option.bind_eq_some_iff.mp H
 obtain ⟨t124,A20,H⟩:=H
 replace H : (if (a0.size : Int) > 11 then (spec_rdParse.j0 k a0 t124 true) else (spec_rdParse.j0 k a0 t124 ((t124.length : Int) != 2))) = some (r1,r2,r3,r4):=H
 have A2:=zI A20;clear A20;have HC3:=zI H;clear H
 go_enter Tryd.func15,Tryd.ntmps15
 go_upto_region 2 with (first|((with_reducible refine gate_dst (N:=2) rfl ?_);(try (refine gate_guard (by rfl) ?_;dsimp only));refine box_event ?hg (N:=2) ?hd (cs:=#[.int .i64 0,.int .i64 0,.int .i64 0]) (t:=26) ?hr ?_;(case hd=>rfl);(case hg=>rfl);(case hr=>first|(go_simp;done)|(go_simp;rfl));intro gb123 hg w4 hbox hb;have n0_:=zI (below_step (by repeat (first|(with_reducible first|exact HB.out|apply zJ|apply zG|apply zH)|exact HB.out)) hb);have n1_:=zI (hbox);have n2_:=zI ((by rw [hg];exact (below_size (by repeat (first|(with_reducible first|exact HB.out|apply zJ|apply zG|apply zH)|exact HB.out))) : w.heap.size ≤ gb123));have n3_:=zI ((by rw [hg];exact (below_size (by repeat (first|(with_reducible first|exact HB.out|apply zJ|apply zG|apply zH)|exact HB.out))) : w.heap.size ≤ gb123));clear HB;have HB:=n0_;have BK123:=n1_;have GW123:=n2_;have GE123:=n3_;clear n0_ n1_ n2_ n3_;clear hb hbox hg)|((with_reducible refine gate_callee (f:=24) rfl ?_);refine goesL_ (some 8) rfl rfl Tryd.func24 (by kernel_rfl) rfl #[.string a0,.int .u8 43] rfl (by (try simp only [List.map_toArray,List.map_cons,List.map_nil]);first|done|rfl|(simp only [List.length_drop,List.length_take];rfl)) ?_;(with_reducible refine (spec_l1Split.calls k a0 43 t124 _ A2.out).mono ?_);rintro e w5 ⟨v125,rfl,ho0,hb⟩;refine ⟨_,rfl,?_⟩;have n0_:=zI (Kd.R_lower ho0 (below_size (by repeat (first|(with_reducible first|exact HB.out|apply zJ|apply zG|apply zH|refine zK ?_ GE123.out)|exact HB.out))));have n1_:=zI (blk_below (g:=gb123) (o:=.cells #[.int .i64 0,.int .i64 0,.int .i64 0] 26 (0,0)) (by (with_reducible repeat (first|refine zD ?_ _|refine zF ?_|refine zE ?_ _));exact BK123.out) hb);have n2_:=zI (below_step (by repeat (first|(with_reducible first|exact HB.out|apply zJ|apply zG|apply zH|refine zK ?_ GE123.out)|exact HB.out)) hb);clear BK123;clear HB;have HO126:=n0_;have BK123:=n1_;have HB:=n2_;clear n0_ n1_ n2_;(try clear hb);(try clear hb2);(try clear hk);(try clear hi);(try clear ho0)))
 (try simp only [Act.put,zA,zB,zC])
 go_cut [16] (fun v16 wc=>∃ (kq : Nat) (x16_2 : Bool),v16 = .bool x16_2 ∧ Aside0 (spec_rdParse.j0 kq a0 t124 x16_2 = some (r1,r2,r3,r4)) ∧ Aside0 (kq ≤ k) ∧ Aside0 (Kd.R Kd.string 9 wc w.heap.size (fun _=>True) v125 t124) ∧ Aside0 (wc.heap[gb123]? = some (.cells #[.int .i64 0,.int .i64 0,.int .i64 0] 26 (0,0))) ∧ Aside0 (Below w.heap.size w wc))
 case first =>
  have H:=HC3.out;clear HC3
  by_cases c6 : (a0.size : Int) > 11
  · rw [if_pos c6] at H
    have c6b0 : decide (11 < (a0.size : Int)) = true:=decide_eq_true c6
    have c6b1 : decide (11 < a0.size) = true:=decide_eq_true (by omega)
    clear c6
    (first|rw [c6b0]|(simp only [i64_w,i32_w];rw [c6b0])|skip)
    have H':=zI H;clear H
    go_wp2
    go_meet
    case rel=>exact ⟨_,(true),(by first|rfl|(simp;done)|(simp [*];done)),H',⟨by first|omega|exact Nat.le_refl _⟩,⟨by (with_reducible repeat (first|apply Kd.R_alloc|apply Kd.R_drewN|apply Kd.R_drew));exact HO126.out⟩,⟨by (with_reducible repeat (first|refine zD ?_ _|refine zF ?_|refine zE ?_ _));exact BK123.out⟩,⟨by repeat (first|(with_reducible first|exact HB.out|apply zJ|apply zG|apply zH|refine zK ?_ GE123.out)|exact HB.out)⟩⟩
  rw [if_neg c6] at H
  have c6b0 : decide (11 < (a0.size : Int)) = false:=decide_eq_false c6
  have c6b1 : decide (11 < a0.size) = false:=decide_eq_false (by omega)
  clear c6
  (first|rw [c6b0]|(simp only [i64_w,i32_w];rw [c6b0])|skip)
  have H':=zI H;clear H
  obtain ⟨Ao7,co7,eo7⟩:=Kd.R_slice HO126.out
  subst eo7
  go_wp2
  go_meet
  case rel=>exact ⟨_,(((t124.length : Int) != 2)),(by first|rfl|(simp;done)|(simp [*];done)),H',⟨by first|omega|exact Nat.le_refl _⟩,⟨by (with_reducible repeat (first|apply Kd.R_alloc|apply Kd.R_drewN|apply Kd.R_drew));exact HO126.out⟩,⟨by (with_reducible repeat (first|refine zD ?_ _|refine zF ?_|refine zE ?_ _));exact BK123.out⟩,⟨by repeat (first|(with_reducible first|exact HB.out|apply zJ|apply zG|apply zH|refine zK ?_ GE123.out)|exact HB.out)⟩⟩
 case rest =>
  clear HC3
  (try clear c1);(try clear c2);(try clear p2);(try clear c6);(try clear c6b0);(try clear c6b1)
  obtain ⟨kq,x16_2,rfl,HA,HJ2,HO_4,BK123,HB⟩:=hcut
  cases kq with
  | zero=>exact absurd HA.out (by simp [spec_rdParse.j0])
  | succ kj2 =>
   have H:=HA.out;clear HA
   simp only [spec_rdParse.j0] at H
   by_cases c8 : x16_2 = true
   · subst c8
     have H1 : (some (0,0,0,false)) = some (r1,r2,r3,r4):=by rw [if_pos rfl] at H;exact H
     clear H;have H:=H1;clear H1
     simp only [Option.some.injEq,Prod.mk.injEq] at H
     obtain ⟨rfl,rfl,rfl,rfl⟩:=H
     have hcz9_0 : wc.cell? ⟨gb123,0,none⟩ = some (.int .i64 0):=(blk_cell BK123.out 0).trans rfl
     have hcz9_1 : wc.cell? ⟨gb123,1,none⟩ = some (.int .i64 0):=(blk_cell BK123.out 1).trans rfl
     have hcz9_2 : wc.cell? ⟨gb123,2,none⟩ = some (.int .i64 0):=(blk_cell BK123.out 2).trans rfl
     have hfz9_0:=blk_frozen BK123.out 0
     have hfz9_1:=blk_frozen BK123.out 1
     have hfz9_2:=blk_frozen BK123.out 2
     go_wp2
     refine bodyPost_ret (results_ct rfl _ _ gb123 26 #[.int .i64 0,.int .i64 0,.int .i64 0] (0,0) _ rfl (by (with_reducible repeat (first|refine zD ?_ _|refine zF ?_|refine zE ?_ _));refine blk_put (cs:=#[.int .i64 0,.int .i64 0,.int .i64 0]) ?_ 2 _ rfl;(with_reducible repeat (first|refine zD ?_ _|refine zF ?_|refine zE ?_ _));refine blk_put (cs:=#[.int .i64 0,.int .i64 0,.int .i64 0]) ?_ 1 _ rfl;(with_reducible repeat (first|refine zD ?_ _|refine zF ?_|refine zE ?_ _));refine blk_put (cs:=#[.int .i64 0,.int .i64 0,.int .i64 0]) ?_ 0 _ rfl;(with_reducible repeat (first|refine zD ?_ _|refine zF ?_|refine zE ?_ _));exact BK123.out) Tryd.underlying26 rfl (by kernel_rfl)) rfl ?_
     exact ⟨by first|rfl|(simp [errW_none,errW_some] <;> rfl)|(simp [*,errW_none,errW_some] <;> rfl),by repeat (first|(with_reducible first|exact HB.out|apply zJ|apply zG|apply zH|refine zK ?_ GE123.out)|exact HB.out)⟩
   replace c8:=Bool.eq_false_iff.mpr c8
   subst c8
   have H1 : (if 1 < (t124.length : Int) then ((spec_l1Split.f kj2 (rdOf ByteArray.empty t124 1) 47).bind fun t128=>(if 0 < (t124.length : Int) then ((spec_l1Read.f kj2 (rdOf ByteArray.empty t124 0)).bind fun t132=>(if 0 < (t128.length : Int) then ((spec_l1Read.f kj2 (rdOf ByteArray.empty t128 0)).bind fun t134=>(if (t128.length : Int) = 2 then (if 1 < (t128.length : Int) then ((spec_l1Read.f kj2 (rdOf ByteArray.empty t128 1)).bind fun t137=>(if (t128.length : Int) < 3 then ((spec_rdGood.f t132 t134 t137).bind fun t138=>(if t138 = true then ((spec_rdText.f kj2 t132 t134 t137).bind fun t139=>(some (t132,t134,t137,(t139.toList == a0.toList)))) else (some (t132,t134,t137,false)))) else (some (t132,t134,t137,false)))) else (none)) else (if (t128.length : Int) < 3 then ((spec_rdGood.f t132 t134 0).bind fun t140=>(if t140 = true then ((spec_rdText.f kj2 t132 t134 0).bind fun t141=>(some (t132,t134,0,(t141.toList == a0.toList)))) else (some (t132,t134,0,false)))) else (some (t132,t134,0,false))))) else (none))) else (none))) else (none)) = some (r1,r2,r3,r4):=by rw [if_neg (show ¬ (false = true) by decide)] at H;exact H
   clear H;have H:=H1;clear H1
   by_cases c10 : 1 < (t124.length : Int)
   rotate_left
   · rw [if_neg c10] at H
     exact absurd H (by simp)
   rw [if_pos c10] at H
   have c10b0 : decide (1 < (t124.length : Int)) = true:=decide_eq_true c10
   have c10b1 : decide (1 < t124.length) = true:=decide_eq_true (by omega)
   clear c10;replace H:=Option.bind_eq_some_iff.mp H
   obtain ⟨t128,A110,H⟩:=H
   replace H : (if 0 < (t124.length : Int) then ((spec_l1Read.f kj2 (rdOf ByteArray.empty t124 0)).bind fun t132=>(if 0 < (t128.length : Int) then ((spec_l1Read.f kj2 (rdOf ByteArray.empty t128 0)).bind fun t134=>(if (t128.length : Int) = 2 then (if 1 < (t128.length : Int) then ((spec_l1Read.f kj2 (rdOf ByteArray.empty t128 1)).bind fun t137=>(if (t128.length : Int) < 3 then ((spec_rdGood.f t132 t134 t137).bind fun t138=>(if t138 = true then ((spec_rdText.f kj2 t132 t134 t137).bind fun t139=>(some (t132,t134,t137,(t139.toList == a0.toList)))) else (some (t132,t134,t137,false)))) else (some (t132,t134,t137,false)))) else (none)) else (if (t128.length : Int) < 3 then ((spec_rdGood.f t132 t134 0).bind fun t140=>(if t140 = true then ((spec_rdText.f kj2 t132 t134 0).bind fun t141=>(some (t132,t134,0,(t141.toList == a0.toList)))) else (some (t132,t134,0,false)))) else (some (t132,t134,0,false))))) else (none))) else (none)) = some (r1,r2,r3,r4):=H
   have A11:=zI A110;clear A110
   by_cases c12 : 0 < (t124.length : Int)
   rotate_left
   · rw [if_neg c12] at H
     exact absurd H (by simp)
   rw [if_pos c12] at H
   have c12b0 : decide (0 < (t124.length : Int)) = true:=decide_eq_true c12
   have c12b1 : decide (0 < t124.length) = true:=decide_eq_true (by omega)
   clear c12;replace H:=Option.bind_eq_some_iff.mp H
   obtain ⟨t132,A130,H⟩:=H
   replace H : (if 0 < (t128.length : Int) then ((spec_l1Read.f kj2 (rdOf ByteArray.empty t128 0)).bind fun t134=>(if (t128.length : Int) = 2 then (if 1 < (t128.length : Int) then ((spec_l1Read.f kj2 (rdOf ByteArray.empty t128 1)).bind fun t137=>(if (t128.length : Int) < 3 then ((spec_rdGood.f t132 t134 t137).bind fun t138=>(if t138 = true then ((spec_rdText.f kj2 t132 t134 t137).bind fun t139=>(some (t132,t134,t137,(t139.toList == a0.toList)))) else (some (t132,t134,t137,false)))) else (some (t132,t134,t137,false)))) else (none)) else (if (t128.length : Int) < 3 then ((spec_rdGood.f t132 t134 0).bind fun t140=>(if t140 = true then ((spec_rdText.f kj2 t132 t134 0).bind fun t141=>(some (t132,t134,0,(t141.toList == a0.toList)))) else (some (t132,t134,0,false)))) else (some (t132,t134,0,false))))) else (none)) = some (r1,r2,r3,r4):=H
   have A13:=zI A130;clear A130
   by_cases c14 : 0 < (t128.length : Int)
   rotate_left
   · rw [if_neg c14] at H
     exact absurd H (by simp)
   rw [if_pos c14] at H
   have c14b0 : decide (0 < (t128.length : Int)) = true:=decide_eq_true c14
   have c14b1 : decide (0 < t128.length) = true:=decide_eq_true (by omega)
   clear c14;replace H:=Option.bind_eq_some_iff.mp H
   obtain ⟨t134,A150,H⟩:=H
   replace H : (if (t128.length : Int) = 2 then (if 1 < (t128.length : Int) then ((spec_l1Read.f kj2 (rdOf ByteArray.empty t128 1)).bind fun t137=>(if (t128.length : Int) < 3 then ((spec_rdGood.f t132 t134 t137).bind fun t138=>(if t138 = true then ((spec_rdText.f kj2 t132 t134 t137).bind fun t139=>(some (t132,t134,t137,(t139.toList == a0.toList)))) else (some (t132,t134,t137,false)))) else (some (t132,t134,t137,false)))) else (none)) else (if (t128.length : Int) < 3 then ((spec_rdGood.f t132 t134 0).bind fun t140=>(if t140 = true then ((spec_rdText.f kj2 t132 t134 0).bind fun t141=>(some (t132,t134,0,(t141.toList == a0.toList)))) else (some (t132,t134,0,false)))) else (some (t132,t134,0,false)))) = some (r1,r2,r3,r4):=H
   have A15:=zI A150;clear A150
   by_cases c16 : (t128.length : Int) = 2
   rotate_left
   · rw [if_neg c16] at H
     have c16b0 : ((t128.length : Int) == 2) = false:=beq_eq_false_iff_ne.mpr c16
     have c16b1 : ((t128.length : Int) != 2) = true:=bne_iff_ne.mpr c16
     by_cases c77 : (t128.length : Int) < 3
     rotate_left
     · rw [if_neg c77] at H
       have c77b0 : decide ((t128.length : Int) < 3) = false:=decide_eq_false c77
       have c77b1 : decide (t128.length < 3) = false:=decide_eq_false (by omega)
       clear c77
       simp only [Option.some.injEq,Prod.mk.injEq] at H
       obtain ⟨rfl,rfl,rfl,rfl⟩:=H
       obtain ⟨Ao112,co112,eo112⟩:=Kd.R_slice HO_4.out
       subst eo112
       have p127 : 0 ≤ (1 : Int):=(by omega)
       have q127 : 1 < (t124.length : Int):=of_decide_eq_true (by first|(with_reducible assumption)|assumption)
       obtain ⟨ad127,e127,hx127_0⟩:=Kd.at_string (Kd.R_reads' HO_4.out).2.2 1 p127 q127
       cases e127
       (try simp only [show (1 : Int).toNat = 1 from rfl,Nat.reduceMul,Nat.reduceEqDiff,Go.Addr.add,↓reduceIte] at hx127_0)
       have qi127 : (1 < t124.length) = True:=eq_true (by omega)
       (try rw [show ((1 : Int)).toNat = 1 from rfl] at hx127_0)
       replace p127:=eq_true p127
       replace q127:=eq_true q127
       try go_wp2_with (first|((with_reducible refine gate_callee (f:=24) rfl ?_);refine goesL_ (some 21) rfl rfl Tryd.func24 (by kernel_rfl) rfl #[.string (rdOf ByteArray.empty t124 1),.int .u8 47] rfl (by (try simp only [List.map_toArray,List.map_cons,List.map_nil]);first|done|rfl|(simp only [List.length_drop,List.length_take];rfl)) ?_;(with_reducible refine (spec_l1Split.calls kj2 (rdOf ByteArray.empty t124 1) 47 t128 _ A11.out).mono ?_);rintro e w113 ⟨v129,rfl,ho0,hb⟩;refine ⟨_,rfl,?_⟩;have n0_:=zI (Kd.R_elder' (by (with_reducible repeat (first|apply Kd.R_alloc|apply Kd.R_drewN|apply Kd.R_drew));exact HO_4.out) (Kd.R_base ho0) hb);have n1_:=zI (Kd.R_lower (Kd.R_new' ho0 (Kd.R_lt (by (with_reducible repeat (first|apply Kd.R_alloc|apply Kd.R_drewN|apply Kd.R_drew));exact HO_4.out))) (below_size (by repeat (first|(with_reducible first|exact HB.out|apply zJ|apply zG|apply zH|refine zK ?_ GE123.out)|exact HB.out))));have n2_:=zI (blk_below (g:=gb123) (o:=.cells #[.int .i64 0,.int .i64 0,.int .i64 0] 26 (0,0)) (by (with_reducible repeat (first|refine zD ?_ _|refine zF ?_|refine zE ?_ _));exact BK123.out) hb);have n3_:=zI (below_step (by repeat (first|(with_reducible first|exact HB.out|apply zJ|apply zG|apply zH|refine zK ?_ GE123.out)|exact HB.out)) hb);clear HO_4;clear BK123;clear HB;have HO_4:=n0_;have HO130:=n1_;have BK123:=n2_;have HB:=n3_;clear n0_ n1_ n2_ n3_;(try clear hb);(try clear hb2);(try clear hk);(try clear hi);(try clear ho0)))
       have n0_:=zI (Kd.R_drew HO_4.out)
       have n1_:=zI (Kd.R_drew HO130.out)
       have n2_:=zI (zF BK123.out)
       have n3_:=zI (zH HB.out)
       clear HO_4 HO130 BK123 HB;have HO_4:=n0_;have HO130:=n1_;have BK123:=n2_;have HB:=n3_;clear n0_ n1_ n2_ n3_
       have p131 : 0 ≤ (0 : Int):=(by omega)
       have q131 : 0 < (t124.length : Int):=of_decide_eq_true (by first|(with_reducible assumption)|assumption)
       obtain ⟨ad131,e131,hx131_0⟩:=Kd.at_string (Kd.R_reads' HO_4.out).2.2 0 p131 q131
       obtain rfl : ad127 = ad131:=(by injection e131)
       have qi131 : (0 < t124.length) = True:=eq_true (by omega)
       (try rw [show ((0 : Int)).toNat = 0 from rfl] at hx131_0);(try rw [Addr.add_zero'] at hx131_0)
       replace p131:=eq_true p131
       replace q131:=eq_true q131
       obtain ⟨Ao115,co115,eo115⟩:=Kd.R_slice HO130.out
       (first|subst eo115|(injection eo115 with f1_ f2_ f3_;have f4_:=f1_.symm;have f5_:=f3_.symm;clear f1_ f2_ f3_;subst f4_;subst f5_))
       have p133 : 0 ≤ (0 : Int):=(by omega)
       have q133 : 0 < (t128.length : Int):=of_decide_eq_true (by first|(with_reducible assumption)|assumption)
       obtain ⟨ad133,e133,hx133_0⟩:=Kd.at_string (Kd.R_reads' HO130.out).2.2 0 p133 q133
       cases e133
       have qi133 : (0 < t128.length) = True:=eq_true (by omega)
       (try rw [show ((0 : Int)).toNat = 0 from rfl] at hx133_0);(try rw [Addr.add_zero'] at hx133_0)
       replace p133:=eq_true p133
       replace q133:=eq_true q133
       refine start_ (n:=11) (S:=fun w'=>w'.cell? ad127 = some (.string (rdOf ByteArray.empty t124 0)) ∧ w'.cell? ad133 = some (.string (rdOf ByteArray.empty t128 0))) (ds:=[]) #[false,false,false,false,false,false,false,false,false,false,false] (by kernel_rfl) rfl rfl ⟨hx131_0,hx133_0⟩ (fun hHeld=>?_);refine with_tabW spec_rdParse.tab5 spec_rdParse.bits5 (fun HT_ HW_=>?_)
       generalize w113.drew = w114 at HO_4 HO130 BK123 HB hx131_0 hx133_0 hHeld ⊢
       refine pure_ (i:=0) (N:=some 22) (v:=?_) (a':=?_) #[true,false,false,false,false,false,false,false,false,false,false] rfl rfl (any_of HT_.out (by kernel_rfl)) (fun _ _ _ h=>h) (Or.inl ⟨by rfl,?_⟩) ?_ ?_
       rotate_left
       · intro w'
         go_simp;with_reducible rfl
       rotate_left
       · simp only [Act.put,zA,zB,zC,i64_w,i32_w]
         rfl
       refine pure_ (i:=1) (N:=some 23) (v:=?_) (a':=?_) #[true,true,false,false,false,false,false,false,false,false,false] rfl rfl (any_of HT_.out (by kernel_rfl)) (fun _ _ _ h=>h) (Or.inl ⟨by rfl,?_⟩) ?_ ?_
       rotate_left
       · intro w'
         go_simp;with_reducible rfl
       rotate_left
       · simp only [Act.put,zA,zB,zC,i64_w,i32_w]
         rfl
       refine pure_ (i:=4) (N:=some 26) (v:=?_) (a':=?_) #[true,true,false,false,true,false,false,false,false,false,false] rfl rfl (any_of HT_.out (by kernel_rfl)) (fun _ _ _ h=>h) (Or.inl ⟨by rfl,?_⟩) ?_ ?_
       rotate_left
       · intro w'
         go_simp;with_reducible rfl
       rotate_left
       · simp only [Act.put,zA,zB,zC,i64_w,i32_w]
         rfl
       refine pure_ (i:=5) (N:=some 27) (v:=?_) (a':=?_) #[true,true,false,false,true,true,false,false,false,false,false] rfl rfl (any_of HT_.out (by kernel_rfl)) (fun _ _ _ h=>h) (Or.inl ⟨by rfl,?_⟩) ?_ ?_
       rotate_left
       · intro w'
         go_simp;with_reducible rfl
       rotate_left
       · simp only [Act.put,zA,zB,zC,i64_w,i32_w]
         rfl
       refine take_ (i:=2) (N:=some 24) (v:=?_) (a':=?_) #[true,true,true,false,true,true,false,false,false,false,false] rfl rfl (take_ofW HT_.out HW_.out (by kernel_rfl)) (fun _ _ _ h=>h) (Or.inl ⟨by rfl,?_⟩) hHeld ?_ ?_
       rotate_left
       · rintro w' ⟨s0,s1⟩
         go_simp;with_reducible rfl
       rotate_left
       · simp only [Act.put,zA,zB,zC,i64_w,i32_w]
         rfl
       refine take_ (i:=6) (N:=some 28) (v:=?_) (a':=?_) #[true,true,true,false,true,true,true,false,false,false,false] rfl rfl (take_ofW HT_.out HW_.out (by kernel_rfl)) (fun _ _ _ h=>h) (Or.inl ⟨by rfl,?_⟩) hHeld ?_ ?_
       rotate_left
       · rintro w' ⟨s0,s1⟩
         go_simp;with_reducible rfl
       rotate_left
       · simp only [Act.put,zA,zB,zC,i64_w,i32_w]
         rfl
       refine join_ (σ:=Nat) 1 #[true,true,true,true,true,true,true,true,true,true,false] (fun s_=>[(25,.int .i64 t132),(29,.int .i64 t134),(6,.pointer (some ⟨s_,0,none⟩)),(30,.agg #[.int .i64 t132,.int .i64 t134,.int .i64 0])]) (fun s_ w'=>(w'.cell? ad127 = some (.string (rdOf ByteArray.empty t124 0)) ∧ w'.cell? ad133 = some (.string (rdOf ByteArray.empty t128 0))) ∧ (Kd.R Kd.string 9 w' w.heap.size (fun k_=>some k_ ≠ (.slice (some ad127) t124.length co112 : Value).ownBlock) (.slice (some ad133) t128.length co115) t128) ∧ (Kd.R Kd.string 9 w' w.heap.size (fun k_=>some k_ ≠ (.slice (some ad133) t128.length co115 : Value).ownBlock) (.slice (some ad127) t124.length co112) t124) ∧ (w'.heap[gb123]? = some (.cells #[.int .i64 0,.int .i64 0,.int .i64 0] 26 (0,0))) ∧ (w'.heap[s_]? = some (.cells #[.int .i64 0,.int .i64 0,.int .i64 0] 26 (0,0))) ∧ (w.heap.size ≤ s_) ∧ (w.heap.size ≤ s_) ∧ (gb123 ≠ s_) ∧ (s_ ≠ gb123) ∧ (Below w.heap.size w w')) ?_ ?_
       rotate_left
       · intro hCont
         refine two_ (i:=3) (j:=9) (Ni:=some 25) (Nj:=some 6) #[true,true,true,true,true,true,true,false,false,false,false] #[true,true,true,false,true,true,true,false,false,true,false] rfl rfl rfl rfl (two_of HT_.out (by kernel_rfl)) (by decide) (by decide) (fun K hK=>?_) (fun K hK=>?_)
         rotate_left
         · skip
           refine box_step ?hg (N:=6) ?hd (cs:=#[.int .i64 0,.int .i64 0,.int .i64 0]) (t:=26) ?hr ?_;(case hd=>rfl);(case hg=>rfl);(case hr=>first|(go_simp;done)|(go_simp;rfl))
           intro gb135 hg w116 hbox hb
           have HS0_:=(hb.cell (World.block_lt_of_cell? _ _ (hHeld.1))).trans (hHeld.1)
           have HS1_:=(hb.cell (World.block_lt_of_cell? _ _ (hHeld.2))).trans (hHeld.2)
           have n0_:=zI (Kd.R_below (by (with_reducible repeat (first|apply Kd.R_alloc|apply Kd.R_drewN|apply Kd.R_drew));exact HO_4.out) hb)
           have n1_:=zI (Kd.R_below (by (with_reducible repeat (first|apply Kd.R_alloc|apply Kd.R_drewN|apply Kd.R_drew));exact HO130.out) hb)
           have n2_:=zI (blk_below (g:=gb123) (o:=.cells #[.int .i64 0,.int .i64 0,.int .i64 0] 26 (0,0)) (by (with_reducible repeat (first|refine zD ?_ _|refine zF ?_|refine zE ?_ _));exact BK123.out) hb)
           have n3_:=zI (below_step (by repeat (first|(with_reducible first|exact HB.out|apply zJ|apply zG|apply zH|refine zK ?_ GE123.out)|exact HB.out)) hb)
           have n4_:=zI (hbox)
           have n5_:=zI ((by rw [hg];exact (below_size (by repeat (first|(with_reducible first|exact HB.out|apply zJ|apply zG|apply zH|refine zK ?_ GE123.out)|exact HB.out))) : w.heap.size ≤ gb135))
           have n6_:=zI ((by rw [hg];exact (below_size (by repeat (first|(with_reducible first|exact HB.out|apply zJ|apply zG|apply zH|refine zK ?_ GE123.out)|exact HB.out))) : w.heap.size ≤ gb135))
           have n7_:=zI ((by rw [hg];exact Nat.ne_of_lt (blk_lt (g:=gb123) (o:=.cells #[.int .i64 0,.int .i64 0,.int .i64 0] 26 (0,0)) (by (with_reducible repeat (first|refine zD ?_ _|refine zF ?_|refine zE ?_ _));exact BK123.out)) : gb123 ≠ gb135))
           have n8_:=zI ((by rw [hg];exact Nat.ne_of_gt (blk_lt (g:=gb123) (o:=.cells #[.int .i64 0,.int .i64 0,.int .i64 0] 26 (0,0)) (by (with_reducible repeat (first|refine zD ?_ _|refine zF ?_|refine zE ?_ _));exact BK123.out)) : gb135 ≠ gb123))
           clear HO_4 HO130 BK123 HB;have HO_4:=n0_;have HO130:=n1_;have BK123:=n2_;have HB:=n3_;have BK135:=n4_;have GW135:=n5_;have GE135:=n6_;have NB123_135:=n7_;have NB135_123:=n8_;clear n0_ n1_ n2_ n3_ n4_ n5_ n6_ n7_ n8_ hb hbox hg
           refine hK.out _ _ ⟨HS0_,HS1_⟩ (fun hHeld=>?_)
           clear hK K
           refine norm_ (a':=?_) ?_ ?_
           rotate_left
           · show Act.put _ (some 6) _ = _
             simp only [Act.put,zA,zB,zC,i64_w,i32_w]
             rfl
           refine one_ (i:=3) (N:=some 25) #[true,true,true,true,true,true,true,false,false,true,false] rfl rfl (one_of HT_.out (by kernel_rfl)) (by decide) (fun K hK=>?_)
           refine goes_ Tryd.func25 (by kernel_rfl) rfl #[.string (rdOf ByteArray.empty t124 0)] (by rfl) rfl rfl (by (try simp only [List.map_toArray,List.map_cons,List.map_nil]);first|done|rfl|(simp only [List.length_drop,List.length_take];rfl)) ?_
           with_reducible refine (spec_l1Read.calls kj2 (rdOf ByteArray.empty t124 0) t132 _ A13.out).mono ?_
           rintro e w' ⟨rfl,⟨nd,rfl⟩⟩
           refine ⟨_,rfl,?_⟩
           refine hK.out _ _ ⟨hHeld.1,hHeld.2⟩ (fun hHeld=>?_)
           clear hK K
           refine norm_ (a':=?_) ?_ ?_
           rotate_left
           · show Act.put _ (some 25) _ = _
             simp only [Act.put,zA,zB,zC,i64_w,i32_w]
             rfl
           refine one_ (i:=7) (N:=some 29) #[true,true,true,true,true,true,true,true,false,true,false] rfl rfl (one_of HT_.out (by kernel_rfl)) (by decide) (fun K hK=>?_)
           refine goes_ Tryd.func25 (by kernel_rfl) rfl #[.string (rdOf ByteArray.empty t128 0)] (by rfl) rfl rfl (by (try simp only [List.map_toArray,List.map_cons,List.map_nil]);first|done|rfl|(simp only [List.length_drop,List.length_take];rfl)) ?_
           with_reducible refine (spec_l1Read.calls kj2 (rdOf ByteArray.empty t128 0) t134 _ A15.out).mono ?_
           rintro e w' ⟨rfl,⟨nd,rfl⟩⟩
           refine ⟨_,rfl,?_⟩
           refine hK.out _ _ ⟨hHeld.1,hHeld.2⟩ (fun hHeld=>?_)
           clear hK K
           refine norm_ (a':=?_) ?_ ?_
           rotate_left
           · show Act.put _ (some 29) _ = _
             simp only [Act.put,zA,zB,zC,i64_w,i32_w]
             rfl
           refine pure_ (i:=8) (N:=some 30) (v:=?_) (a':=?_) #[true,true,true,true,true,true,true,true,true,true,false] rfl rfl (any_of HT_.out (by kernel_rfl)) (fun _ _ _ h=>h) (Or.inl ⟨by rfl,?_⟩) ?_ ?_
           rotate_left
           · intro w'
             go_simp;with_reducible rfl
           rotate_left
           · simp only [Act.put,zA,zB,zC,i64_w,i32_w]
             rfl
           exact norm_ (by simp only [putAll,Act.put,zA,zB,zC]) (hCont (gb135) _ ⟨hHeld,(by (with_reducible repeat (first|apply Kd.R_alloc|apply Kd.R_drewN|apply Kd.R_drew));exact Kd.R_mono HO130.out (fun _ hk=>hk.2)),(by (with_reducible repeat (first|apply Kd.R_alloc|apply Kd.R_drewN|apply Kd.R_drew));exact Kd.R_mono HO_4.out (fun _ hk=>hk.2)),(by (with_reducible repeat (first|refine zD ?_ _|refine zF ?_|refine zE ?_ _));exact BK123.out),(by (with_reducible repeat (first|refine zD ?_ _|refine zF ?_|refine zE ?_ _));exact BK135.out),GW135.out,GE135.out,NB123_135.out,NB135_123.out,(by repeat (first|(with_reducible first|exact HB.out|apply zJ|apply zG|apply zH|refine zK ?_ GE123.out|refine zK ?_ GE135.out)|exact HB.out))⟩)
         skip
         refine goes_ Tryd.func25 (by kernel_rfl) rfl #[.string (rdOf ByteArray.empty t124 0)] (by rfl) rfl rfl (by (try simp only [List.map_toArray,List.map_cons,List.map_nil]);first|done|rfl|(simp only [List.length_drop,List.length_take];rfl)) ?_
         with_reducible refine (spec_l1Read.calls kj2 (rdOf ByteArray.empty t124 0) t132 _ A13.out).mono ?_
         rintro e w' ⟨rfl,⟨nd,rfl⟩⟩
         refine ⟨_,rfl,?_⟩
         refine hK.out _ _ ⟨hHeld.1,hHeld.2⟩ (fun hHeld=>?_)
         clear hK K
         refine norm_ (a':=?_) ?_ ?_
         rotate_left
         · show Act.put _ (some 25) _ = _
           simp only [Act.put,zA,zB,zC,i64_w,i32_w]
           rfl
         refine two_ (i:=7) (j:=9) (Ni:=some 29) (Nj:=some 6) #[true,true,true,true,true,true,true,true,false,false,false] #[true,true,true,true,true,true,true,false,false,true,false] rfl rfl rfl rfl (two_of HT_.out (by kernel_rfl)) (by decide) (by decide) (fun K hK=>?_) (fun K hK=>?_)
         · skip
           refine goes_ Tryd.func25 (by kernel_rfl) rfl #[.string (rdOf ByteArray.empty t128 0)] (by rfl) rfl rfl (by (try simp only [List.map_toArray,List.map_cons,List.map_nil]);first|done|rfl|(simp only [List.length_drop,List.length_take];rfl)) ?_
           with_reducible refine (spec_l1Read.calls kj2 (rdOf ByteArray.empty t128 0) t134 _ A15.out).mono ?_
           rintro e w' ⟨rfl,⟨nd,rfl⟩⟩
           refine ⟨_,rfl,?_⟩
           refine hK.out _ _ ⟨hHeld.1,hHeld.2⟩ (fun hHeld=>?_)
           clear hK K
           refine norm_ (a':=?_) ?_ ?_
           rotate_left
           · show Act.put _ (some 29) _ = _
             simp only [Act.put,zA,zB,zC,i64_w,i32_w]
             rfl
           refine pure_ (i:=8) (N:=some 30) (v:=?_) (a':=?_) #[true,true,true,true,true,true,true,true,true,false,false] rfl rfl (any_of HT_.out (by kernel_rfl)) (fun _ _ _ h=>h) (Or.inl ⟨by rfl,?_⟩) ?_ ?_
           rotate_left
           · intro w'
             go_simp;with_reducible rfl
           rotate_left
           · simp only [Act.put,zA,zB,zC,i64_w,i32_w]
             rfl
           refine one_ (i:=9) (N:=some 6) #[true,true,true,true,true,true,true,true,true,true,false] rfl rfl (one_of HT_.out (by kernel_rfl)) (by decide) (fun K hK=>?_)
           refine box_step ?hg (N:=6) ?hd (cs:=#[.int .i64 0,.int .i64 0,.int .i64 0]) (t:=26) ?hr ?_;(case hd=>rfl);(case hg=>rfl);(case hr=>first|(go_simp;done)|(go_simp;rfl))
           intro gb135 hg w116 hbox hb
           have HS0_:=(hb.cell (World.block_lt_of_cell? _ _ (hHeld.1))).trans (hHeld.1)
           have HS1_:=(hb.cell (World.block_lt_of_cell? _ _ (hHeld.2))).trans (hHeld.2)
           have n0_:=zI (Kd.R_below (by (with_reducible repeat (first|apply Kd.R_alloc|apply Kd.R_drewN|apply Kd.R_drew));exact HO_4.out) hb)
           have n1_:=zI (Kd.R_below (by (with_reducible repeat (first|apply Kd.R_alloc|apply Kd.R_drewN|apply Kd.R_drew));exact HO130.out) hb)
           have n2_:=zI (blk_below (g:=gb123) (o:=.cells #[.int .i64 0,.int .i64 0,.int .i64 0] 26 (0,0)) (by (with_reducible repeat (first|refine zD ?_ _|refine zF ?_|refine zE ?_ _));exact BK123.out) hb)
           have n3_:=zI (below_step (by repeat (first|(with_reducible first|exact HB.out|apply zJ|apply zG|apply zH|refine zK ?_ GE123.out)|exact HB.out)) hb)
           have n4_:=zI (hbox)
           have n5_:=zI ((by rw [hg];exact (below_size (by repeat (first|(with_reducible first|exact HB.out|apply zJ|apply zG|apply zH|refine zK ?_ GE123.out)|exact HB.out))) : w.heap.size ≤ gb135))
           have n6_:=zI ((by rw [hg];exact (below_size (by repeat (first|(with_reducible first|exact HB.out|apply zJ|apply zG|apply zH|refine zK ?_ GE123.out)|exact HB.out))) : w.heap.size ≤ gb135))
           have n7_:=zI ((by rw [hg];exact Nat.ne_of_lt (blk_lt (g:=gb123) (o:=.cells #[.int .i64 0,.int .i64 0,.int .i64 0] 26 (0,0)) (by (with_reducible repeat (first|refine zD ?_ _|refine zF ?_|refine zE ?_ _));exact BK123.out)) : gb123 ≠ gb135))
           have n8_:=zI ((by rw [hg];exact Nat.ne_of_gt (blk_lt (g:=gb123) (o:=.cells #[.int .i64 0,.int .i64 0,.int .i64 0] 26 (0,0)) (by (with_reducible repeat (first|refine zD ?_ _|refine zF ?_|refine zE ?_ _));exact BK123.out)) : gb135 ≠ gb123))
           clear HO_4 HO130 BK123 HB;have HO_4:=n0_;have HO130:=n1_;have BK123:=n2_;have HB:=n3_;have BK135:=n4_;have GW135:=n5_;have GE135:=n6_;have NB123_135:=n7_;have NB135_123:=n8_;clear n0_ n1_ n2_ n3_ n4_ n5_ n6_ n7_ n8_ hb hbox hg
           refine hK.out _ _ ⟨HS0_,HS1_⟩ (fun hHeld=>?_)
           clear hK K
           refine norm_ (a':=?_) ?_ ?_
           rotate_left
           · show Act.put _ (some 6) _ = _
             simp only [Act.put,zA,zB,zC,i64_w,i32_w]
             rfl
           exact norm_ (by simp only [putAll,Act.put,zA,zB,zC]) (hCont (gb135) _ ⟨hHeld,(by (with_reducible repeat (first|apply Kd.R_alloc|apply Kd.R_drewN|apply Kd.R_drew));exact Kd.R_mono HO130.out (fun _ hk=>hk.2)),(by (with_reducible repeat (first|apply Kd.R_alloc|apply Kd.R_drewN|apply Kd.R_drew));exact Kd.R_mono HO_4.out (fun _ hk=>hk.2)),(by (with_reducible repeat (first|refine zD ?_ _|refine zF ?_|refine zE ?_ _));exact BK123.out),(by (with_reducible repeat (first|refine zD ?_ _|refine zF ?_|refine zE ?_ _));exact BK135.out),GW135.out,GE135.out,NB123_135.out,NB135_123.out,(by repeat (first|(with_reducible first|exact HB.out|apply zJ|apply zG|apply zH|refine zK ?_ GE123.out|refine zK ?_ GE135.out)|exact HB.out))⟩)
         skip
         refine box_step ?hg (N:=6) ?hd (cs:=#[.int .i64 0,.int .i64 0,.int .i64 0]) (t:=26) ?hr ?_;(case hd=>rfl);(case hg=>rfl);(case hr=>first|(go_simp;done)|(go_simp;rfl))
         intro gb135 hg w116 hbox hb
         have HS0_:=(hb.cell (World.block_lt_of_cell? _ _ (hHeld.1))).trans (hHeld.1)
         have HS1_:=(hb.cell (World.block_lt_of_cell? _ _ (hHeld.2))).trans (hHeld.2)
         have n0_:=zI (Kd.R_below (by (with_reducible repeat (first|apply Kd.R_alloc|apply Kd.R_drewN|apply Kd.R_drew));exact HO_4.out) hb)
         have n1_:=zI (Kd.R_below (by (with_reducible repeat (first|apply Kd.R_alloc|apply Kd.R_drewN|apply Kd.R_drew));exact HO130.out) hb)
         have n2_:=zI (blk_below (g:=gb123) (o:=.cells #[.int .i64 0,.int .i64 0,.int .i64 0] 26 (0,0)) (by (with_reducible repeat (first|refine zD ?_ _|refine zF ?_|refine zE ?_ _));exact BK123.out) hb)
         have n3_:=zI (below_step (by repeat (first|(with_reducible first|exact HB.out|apply zJ|apply zG|apply zH|refine zK ?_ GE123.out)|exact HB.out)) hb)
         have n4_:=zI (hbox)
         have n5_:=zI ((by rw [hg];exact (below_size (by repeat (first|(with_reducible first|exact HB.out|apply zJ|apply zG|apply zH|refine zK ?_ GE123.out)|exact HB.out))) : w.heap.size ≤ gb135))
         have n6_:=zI ((by rw [hg];exact (below_size (by repeat (first|(with_reducible first|exact HB.out|apply zJ|apply zG|apply zH|refine zK ?_ GE123.out)|exact HB.out))) : w.heap.size ≤ gb135))
         have n7_:=zI ((by rw [hg];exact Nat.ne_of_lt (blk_lt (g:=gb123) (o:=.cells #[.int .i64 0,.int .i64 0,.int .i64 0] 26 (0,0)) (by (with_reducible repeat (first|refine zD ?_ _|refine zF ?_|refine zE ?_ _));exact BK123.out)) : gb123 ≠ gb135))
         have n8_:=zI ((by rw [hg];exact Nat.ne_of_gt (blk_lt (g:=gb123) (o:=.cells #[.int .i64 0,.int .i64 0,.int .i64 0] 26 (0,0)) (by (with_reducible repeat (first|refine zD ?_ _|refine zF ?_|refine zE ?_ _));exact BK123.out)) : gb135 ≠ gb123))
         clear HO_4 HO130 BK123 HB;have HO_4:=n0_;have HO130:=n1_;have BK123:=n2_;have HB:=n3_;have BK135:=n4_;have GW135:=n5_;have GE135:=n6_;have NB123_135:=n7_;have NB135_123:=n8_;clear n0_ n1_ n2_ n3_ n4_ n5_ n6_ n7_ n8_ hb hbox hg
         refine hK.out _ _ ⟨HS0_,HS1_⟩ (fun hHeld=>?_)
         clear hK K
         refine norm_ (a':=?_) ?_ ?_
         rotate_left
         · show Act.put _ (some 6) _ = _
           simp only [Act.put,zA,zB,zC,i64_w,i32_w]
           rfl
         refine one_ (i:=7) (N:=some 29) #[true,true,true,true,true,true,true,true,false,true,false] rfl rfl (one_of HT_.out (by kernel_rfl)) (by decide) (fun K hK=>?_)
         refine goes_ Tryd.func25 (by kernel_rfl) rfl #[.string (rdOf ByteArray.empty t128 0)] (by rfl) rfl rfl (by (try simp only [List.map_toArray,List.map_cons,List.map_nil]);first|done|rfl|(simp only [List.length_drop,List.length_take];rfl)) ?_
         with_reducible refine (spec_l1Read.calls kj2 (rdOf ByteArray.empty t128 0) t134 _ A15.out).mono ?_
         rintro e w' ⟨rfl,⟨nd,rfl⟩⟩
         refine ⟨_,rfl,?_⟩
         refine hK.out _ _ ⟨hHeld.1,hHeld.2⟩ (fun hHeld=>?_)
         clear hK K
         refine norm_ (a':=?_) ?_ ?_
         rotate_left
         · show Act.put _ (some 29) _ = _
           simp only [Act.put,zA,zB,zC,i64_w,i32_w]
           rfl
         refine pure_ (i:=8) (N:=some 30) (v:=?_) (a':=?_) #[true,true,true,true,true,true,true,true,true,true,false] rfl rfl (any_of HT_.out (by kernel_rfl)) (fun _ _ _ h=>h) (Or.inl ⟨by rfl,?_⟩) ?_ ?_
         rotate_left
         · intro w'
           go_simp;with_reducible rfl
         rotate_left
         · simp only [Act.put,zA,zB,zC,i64_w,i32_w]
           rfl
         exact norm_ (by simp only [putAll,Act.put,zA,zB,zC]) (hCont (gb135) _ ⟨hHeld,(by (with_reducible repeat (first|apply Kd.R_alloc|apply Kd.R_drewN|apply Kd.R_drew));exact Kd.R_mono HO130.out (fun _ hk=>hk.2)),(by (with_reducible repeat (first|apply Kd.R_alloc|apply Kd.R_drewN|apply Kd.R_drew));exact Kd.R_mono HO_4.out (fun _ hk=>hk.2)),(by (with_reducible repeat (first|refine zD ?_ _|refine zF ?_|refine zE ?_ _));exact BK123.out),(by (with_reducible repeat (first|refine zD ?_ _|refine zF ?_|refine zE ?_ _));exact BK135.out),GW135.out,GE135.out,NB123_135.out,NB135_123.out,(by repeat (first|(with_reducible first|exact HB.out|apply zJ|apply zG|apply zH|refine zK ?_ GE123.out|refine zK ?_ GE135.out)|exact HB.out))⟩)
       rintro gb135 w117 ⟨hS_,h0_,h1_,h2_,h3_,h4_,h5_,h6_,h7_,h8_⟩
       have n0_ : Aside0 (Kd.R Kd.string 9 w117 w.heap.size (fun k_=>some k_ ≠ (.slice (some ad127) t124.length co112 : Value).ownBlock) (.slice (some ad133) t128.length co115) t128):=⟨h0_⟩
       have n1_ : Aside0 (Kd.R Kd.string 9 w117 w.heap.size (fun k_=>some k_ ≠ (.slice (some ad133) t128.length co115 : Value).ownBlock) (.slice (some ad127) t124.length co112) t124):=⟨h1_⟩
       have n2_ : Aside0 (w117.heap[gb123]? = some (.cells #[.int .i64 0,.int .i64 0,.int .i64 0] 26 (0,0))):=⟨h2_⟩
       have n3_ : Aside0 (w117.heap[gb135]? = some (.cells #[.int .i64 0,.int .i64 0,.int .i64 0] 26 (0,0))):=⟨h3_⟩
       have n4_ : Aside0 (w.heap.size ≤ gb135):=⟨h4_⟩
       have n5_ : Aside0 (w.heap.size ≤ gb135):=⟨h5_⟩
       have n6_ : Aside0 (gb123 ≠ gb135):=⟨h6_⟩
       have n7_ : Aside0 (gb135 ≠ gb123):=⟨h7_⟩
       have n8_ : Aside0 (Below w.heap.size w w117):=⟨h8_⟩
       clear HO_4 HO130 BK123 HB h0_ h1_ h2_ h3_ h4_ h5_ h6_ h7_ h8_;have HO130:=n0_;have HO_4:=n1_;have BK123:=n2_;have BK135:=n3_;have GW135:=n4_;have GE135:=n5_;have NB123_135:=n6_;have NB135_123:=n7_;have HB:=n8_;clear n0_ n1_ n2_ n3_ n4_ n5_ n6_ n7_ n8_
       have hHeld : w117.cell? ad127 = some (.string (rdOf ByteArray.empty t124 0)) ∧ w117.cell? ad133 = some (.string (rdOf ByteArray.empty t128 0)):=hS_
       refine norm_ (a':=?_) ?_ ?_
       rotate_left
       · simp only [putAll,Act.put,zA,zB,zC]
         rfl
       refine one_ (i:=10) (N:=none) #[true,true,true,true,true,true,true,true,true,true,true] rfl rfl (one_of HT_.out (by kernel_rfl)) (by decide) (fun K hK=>?_)
       have hs118 : w117.cell? ⟨gb135,0,none⟩ = some (.int .i64 0):=(blk_cell BK135.out 0).trans rfl
       have hfs118:=blk_frozen BK135.out 0
       have hns118_0:=NB123_135.out;have hms118_0:=NB135_123.out
       have hs119 : w117.cell? ⟨gb135,1,none⟩ = some (.int .i64 0):=(blk_cell BK135.out 1).trans rfl
       have hfs119:=blk_frozen BK135.out 1
       have hns119_0:=NB123_135.out;have hms119_0:=NB135_123.out
       have hs120 : w117.cell? ⟨gb135,2,none⟩ = some (.int .i64 0):=(blk_cell BK135.out 2).trans rfl
       have hfs120:=blk_frozen BK135.out 2
       have hns120_0:=NB123_135.out;have hms120_0:=NB135_123.out
       refine skip_ (w1:=?_) (by rfl) rfl ?_ ?_
       rotate_left
       · go_simp
         rfl
       refine hK.out _ _ ⟨((cell_far (p:=⟨gb135,_,none⟩) (by first|exact Kd.own_blk (Kd.R_ne HO_4.out BK135.out (by decide))|(rw [add_block];exact Kd.own_blk (Kd.R_ne HO_4.out BK135.out (by decide)))|(show (Addr.add _ _).block ≠ _;rw [add_block];exact Kd.own_blk (Kd.R_ne HO_4.out BK135.out (by decide)))|(dsimp only;exact Kd.own_blk (Kd.R_ne HO_4.out BK135.out (by decide)))) _).trans (((cell_far (p:=⟨gb135,_,none⟩) (by first|exact Kd.own_blk (Kd.R_ne HO_4.out BK135.out (by decide))|(rw [add_block];exact Kd.own_blk (Kd.R_ne HO_4.out BK135.out (by decide)))|(show (Addr.add _ _).block ≠ _;rw [add_block];exact Kd.own_blk (Kd.R_ne HO_4.out BK135.out (by decide)))|(dsimp only;exact Kd.own_blk (Kd.R_ne HO_4.out BK135.out (by decide)))) _).trans (((cell_far (p:=⟨gb135,_,none⟩) (by first|exact Kd.own_blk (Kd.R_ne HO_4.out BK135.out (by decide))|(rw [add_block];exact Kd.own_blk (Kd.R_ne HO_4.out BK135.out (by decide)))|(show (Addr.add _ _).block ≠ _;rw [add_block];exact Kd.own_blk (Kd.R_ne HO_4.out BK135.out (by decide)))|(dsimp only;exact Kd.own_blk (Kd.R_ne HO_4.out BK135.out (by decide)))) _).trans (hHeld.1)))))),((cell_far (p:=⟨gb135,_,none⟩) (by first|exact Kd.own_blk (Kd.R_ne HO130.out BK135.out (by decide))|(rw [add_block];exact Kd.own_blk (Kd.R_ne HO130.out BK135.out (by decide)))|(show (Addr.add _ _).block ≠ _;rw [add_block];exact Kd.own_blk (Kd.R_ne HO130.out BK135.out (by decide)))|(dsimp only;exact Kd.own_blk (Kd.R_ne HO130.out BK135.out (by decide)))) _).trans (((cell_far (p:=⟨gb135,_,none⟩) (by first|exact Kd.own_blk (Kd.R_ne HO130.out BK135.out (by decide))|(rw [add_block];exact Kd.own_blk (Kd.R_ne HO130.out BK135.out (by decide)))|(show (Addr.add _ _).block ≠ _;rw [add_block];exact Kd.own_blk (Kd.R_ne HO130.out BK135.out (by decide)))|(dsimp only;exact Kd.own_blk (Kd.R_ne HO130.out BK135.out (by decide)))) _).trans (((cell_far (p:=⟨gb135,_,none⟩) (by first|exact Kd.own_blk (Kd.R_ne HO130.out BK135.out (by decide))|(rw [add_block];exact Kd.own_blk (Kd.R_ne HO130.out BK135.out (by decide)))|(show (Addr.add _ _).block ≠ _;rw [add_block];exact Kd.own_blk (Kd.R_ne HO130.out BK135.out (by decide)))|(dsimp only;exact Kd.own_blk (Kd.R_ne HO130.out BK135.out (by decide)))) _).trans (hHeld.2))))))⟩ (fun hHeld=>?_)
       clear hK K
       refine done_ (done_of HT_.out (by kernel_rfl)) ?_
       try go_wp2
       have n0_ : Aside0 (Kd.R Kd.string 9 (((w117.setCell ⟨gb135,0,none⟩ (.int .i64 t132)).setCell ⟨gb135,1,none⟩ (.int .i64 t134)).setCell ⟨gb135,2,none⟩ (.int .i64 0)) w.heap.size (fun k_=>some k_ ≠ (.slice (some ad133) t128.length co115 : Value).ownBlock) (.slice (some ad127) t124.length co112) t124):=⟨by (with_reducible repeat (first|apply Kd.R_alloc|apply Kd.R_drewN|apply Kd.R_drew));exact Kd.R_mono (Kd.R_far (p:=⟨gb135,2,none⟩) (Kd.R_far (p:=⟨gb135,1,none⟩) (Kd.R_far (p:=⟨gb135,0,none⟩) (Kd.R_types HO_4.out BK135.out (by decide)) (fun _ hk=>hk.2) (.int .i64 t132)) (fun _ hk=>hk.2) (.int .i64 t134)) (fun _ hk=>hk.2) (.int .i64 0)) (fun _ hk=>hk.1)⟩
       have n1_ : Aside0 (Kd.R Kd.string 9 (((w117.setCell ⟨gb135,0,none⟩ (.int .i64 t132)).setCell ⟨gb135,1,none⟩ (.int .i64 t134)).setCell ⟨gb135,2,none⟩ (.int .i64 0)) w.heap.size (fun k_=>some k_ ≠ (.slice (some ad127) t124.length co112 : Value).ownBlock) (.slice (some ad133) t128.length co115) t128):=⟨by (with_reducible repeat (first|apply Kd.R_alloc|apply Kd.R_drewN|apply Kd.R_drew));exact Kd.R_mono (Kd.R_far (p:=⟨gb135,2,none⟩) (Kd.R_far (p:=⟨gb135,1,none⟩) (Kd.R_far (p:=⟨gb135,0,none⟩) (Kd.R_types HO130.out BK135.out (by decide)) (fun _ hk=>hk.2) (.int .i64 t132)) (fun _ hk=>hk.2) (.int .i64 t134)) (fun _ hk=>hk.2) (.int .i64 0)) (fun _ hk=>hk.1)⟩
       have n2_ : Aside0 ((((w117.setCell ⟨gb135,0,none⟩ (.int .i64 t132)).setCell ⟨gb135,1,none⟩ (.int .i64 t134)).setCell ⟨gb135,2,none⟩ (.int .i64 0)).heap[gb123]? = some (.cells #[.int .i64 0,.int .i64 0,.int .i64 0] 26 (0,0))):=⟨by (with_reducible repeat (first|refine zD ?_ _|refine zF ?_|refine zE ?_ _));refine blk_far ?_ NB123_135.out _;(with_reducible repeat (first|refine zD ?_ _|refine zF ?_|refine zE ?_ _));refine blk_far ?_ NB123_135.out _;(with_reducible repeat (first|refine zD ?_ _|refine zF ?_|refine zE ?_ _));refine blk_far ?_ NB123_135.out _;(with_reducible repeat (first|refine zD ?_ _|refine zF ?_|refine zE ?_ _));exact BK123.out⟩
       have n3_ : Aside0 ((((w117.setCell ⟨gb135,0,none⟩ (.int .i64 t132)).setCell ⟨gb135,1,none⟩ (.int .i64 t134)).setCell ⟨gb135,2,none⟩ (.int .i64 0)).heap[gb135]? = some (.cells #[.int .i64 t132,.int .i64 t134,.int .i64 0] 26 (0,0))):=⟨by (with_reducible repeat (first|refine zD ?_ _|refine zF ?_|refine zE ?_ _));refine blk_put (cs:=#[.int .i64 t132,.int .i64 t134,.int .i64 0]) ?_ 2 _ rfl;(with_reducible repeat (first|refine zD ?_ _|refine zF ?_|refine zE ?_ _));refine blk_put (cs:=#[.int .i64 t132,.int .i64 0,.int .i64 0]) ?_ 1 _ rfl;(with_reducible repeat (first|refine zD ?_ _|refine zF ?_|refine zE ?_ _));refine blk_put (cs:=#[.int .i64 0,.int .i64 0,.int .i64 0]) ?_ 0 _ rfl;(with_reducible repeat (first|refine zD ?_ _|refine zF ?_|refine zE ?_ _));exact BK135.out⟩
       have n4_ : Aside0 (Below w.heap.size w (((w117.setCell ⟨gb135,0,none⟩ (.int .i64 t132)).setCell ⟨gb135,1,none⟩ (.int .i64 t134)).setCell ⟨gb135,2,none⟩ (.int .i64 0))):=⟨by repeat (first|(with_reducible first|exact HB.out|apply zJ|apply zG|apply zH|refine zK ?_ GE123.out|refine zK ?_ GE135.out)|exact HB.out)⟩
       (try clear HO_4);(try clear HO130);(try clear BK123);(try clear BK135);(try clear HB)
       generalize (((w117.setCell ⟨gb135,0,none⟩ (.int .i64 t132)).setCell ⟨gb135,1,none⟩ (.int .i64 t134)).setCell ⟨gb135,2,none⟩ (.int .i64 0)) = w121 at n0_ n1_ n2_ n3_ n4_ ⊢
       have HO_4:=n0_;have HO130:=n1_;have BK123:=n2_;have BK135:=n3_;have HB:=n4_;clear n0_ n1_ n2_ n3_ n4_
       have n0_:=zI (Kd.R_drew HO_4.out)
       have n1_:=zI (Kd.R_drew HO130.out)
       have n2_:=zI (zF BK123.out)
       have n3_:=zI (zF BK135.out)
       have n4_:=zI (zH HB.out)
       clear HO_4 HO130 BK123 BK135 HB;have HO_4:=n0_;have HO130:=n1_;have BK123:=n2_;have BK135:=n3_;have HB:=n4_;clear n0_ n1_ n2_ n3_ n4_
       refine start_ (n:=16) (S:=fun w'=>w'.cell? ⟨gb135,0,none⟩ = some (.int .i64 t132) ∧ w'.cell? ⟨gb135,1,none⟩ = some (.int .i64 t134) ∧ w'.cell? ⟨gb135,2,none⟩ = some (.int .i64 0)) (ds:=[]) #[false,false,false,false,false,false,false,false,false,false,false,false,false,false,false,false] (by kernel_rfl) rfl rfl ⟨(blk_cell BK135.out 0).trans rfl,(blk_cell BK135.out 1).trans rfl,(blk_cell BK135.out 2).trans rfl⟩ (fun hHeld=>?_);refine with_tabW spec_rdParse.tab8 spec_rdParse.bits8 (fun HT_ HW_=>?_)
       generalize w121.drew = w122 at HO_4 HO130 BK123 BK135 HB hHeld ⊢
       refine pure_ (i:=1) (N:=some 40) (v:=?_) (a':=?_) #[false,true,false,false,false,false,false,false,false,false,false,false,false,false,false,false] rfl rfl (any_of HT_.out (by kernel_rfl)) (fun _ _ _ h=>h) (Or.inl ⟨by rfl,?_⟩) ?_ ?_
       rotate_left
       · intro w'
         go_simp;with_reducible rfl
       rotate_left
       · simp only [Act.put,zA,zB,zC,i64_w,i32_w]
         rfl
       refine pure_ (i:=2) (N:=some 41) (v:=?_) (a':=?_) #[false,true,true,false,false,false,false,false,false,false,false,false,false,false,false,false] rfl rfl (any_of HT_.out (by kernel_rfl)) (fun _ _ _ h=>h) (Or.inl ⟨by rfl,?_⟩) ?_ ?_
       rotate_left
       · intro w'
         go_simp;with_reducible rfl
       rotate_left
       · simp only [Act.put,zA,zB,zC,i64_w,i32_w]
         rfl
       refine pure_ (i:=3) (N:=some 42) (v:=?_) (a':=?_) #[false,true,true,true,false,false,false,false,false,false,false,false,false,false,false,false] rfl rfl (any_of HT_.out (by kernel_rfl)) (fun _ _ _ h=>h) (Or.inl ⟨by rfl,?_⟩) ?_ ?_
       rotate_left
       · intro w'
         go_simp;with_reducible rfl
       rotate_left
       · simp only [Act.put,zA,zB,zC,i64_w,i32_w]
         rfl
       refine pure_ (i:=4) (N:=some 43) (v:=?_) (a':=?_) #[false,true,true,true,true,false,false,false,false,false,false,false,false,false,false,false] rfl rfl (any_of HT_.out (by kernel_rfl)) (fun _ _ _ h=>h) (Or.inl ⟨by rfl,?_⟩) ?_ ?_
       rotate_left
       · intro w'
         go_simp;with_reducible rfl
       rotate_left
       · simp only [Act.put,zA,zB,zC,i64_w,i32_w]
         rfl
       refine pure_ (i:=5) (N:=some 44) (v:=undef) (a':=?_) #[false,true,true,true,true,true,false,false,false,false,false,false,false,false,false,false] rfl rfl (any_of HT_.out (by kernel_rfl)) (fun _ _ _ h=>h) (Or.inr ⟨by rfl,rfl⟩) ?_ ?_
       rotate_left
       · simp only [Act.put,zA,zB,zC,i64_w,i32_w]
         rfl
       refine pure_ (i:=6) (N:=some 45) (v:=undef) (a':=?_) #[false,true,true,true,true,true,true,false,false,false,false,false,false,false,false,false] rfl rfl (any_of HT_.out (by kernel_rfl)) (fun _ _ _ h=>h) (Or.inr ⟨by rfl,rfl⟩) ?_ ?_
       rotate_left
       · simp only [Act.put,zA,zB,zC,i64_w,i32_w]
         rfl
       refine pure_ (i:=7) (N:=some 46) (v:=?_) (a':=?_) #[false,true,true,true,true,true,true,true,false,false,false,false,false,false,false,false] rfl rfl (any_of HT_.out (by kernel_rfl)) (fun _ _ _ h=>h) (Or.inl ⟨by rfl,?_⟩) ?_ ?_
       rotate_left
       · intro w'
         go_simp;with_reducible rfl
       rotate_left
       · simp only [Act.put,zA,zB,zC,i64_w,i32_w]
         rfl
       refine pure_ (i:=8) (N:=some 47) (v:=?_) (a':=?_) #[false,true,true,true,true,true,true,true,true,false,false,false,false,false,false,false] rfl rfl (any_of HT_.out (by kernel_rfl)) (fun _ _ _ h=>h) (Or.inl ⟨by rfl,?_⟩) ?_ ?_
       rotate_left
       · intro w'
         go_simp;with_reducible rfl
       rotate_left
       · simp only [Act.put,zA,zB,zC,i64_w,i32_w]
         rfl
       refine pure_ (i:=9) (N:=some 48) (v:=undef) (a':=?_) #[false,true,true,true,true,true,true,true,true,true,false,false,false,false,false,false] rfl rfl (any_of HT_.out (by kernel_rfl)) (fun _ _ _ h=>h) (Or.inr ⟨by rfl,rfl⟩) ?_ ?_
       rotate_left
       · simp only [Act.put,zA,zB,zC,i64_w,i32_w]
         rfl
       refine pure_ (i:=10) (N:=some 49) (v:=undef) (a':=?_) #[false,true,true,true,true,true,true,true,true,true,true,false,false,false,false,false] rfl rfl (any_of HT_.out (by kernel_rfl)) (fun _ _ _ h=>h) (Or.inr ⟨by rfl,rfl⟩) ?_ ?_
       rotate_left
       · simp only [Act.put,zA,zB,zC,i64_w,i32_w]
         rfl
       refine pure_ (i:=11) (N:=some 50) (v:=undef) (a':=?_) #[false,true,true,true,true,true,true,true,true,true,true,true,false,false,false,false] rfl rfl (any_of HT_.out (by kernel_rfl)) (fun _ _ _ h=>h) (Or.inr ⟨by rfl,rfl⟩) ?_ ?_
       rotate_left
       · simp only [Act.put,zA,zB,zC,i64_w,i32_w]
         rfl
       refine pure_ (i:=12) (N:=some 51) (v:=undef) (a':=?_) #[false,true,true,true,true,true,true,true,true,true,true,true,true,false,false,false] rfl rfl (any_of HT_.out (by kernel_rfl)) (fun _ _ _ h=>h) (Or.inr ⟨by rfl,rfl⟩) ?_ ?_
       rotate_left
       · simp only [Act.put,zA,zB,zC,i64_w,i32_w]
         rfl
       refine pure_ (i:=13) (N:=some 52) (v:=?_) (a':=?_) #[false,true,true,true,true,true,true,true,true,true,true,true,true,true,false,false] rfl rfl (any_of HT_.out (by kernel_rfl)) (fun _ _ _ h=>h) (Or.inl ⟨by rfl,?_⟩) ?_ ?_
       rotate_left
       · intro w'
         go_simp;with_reducible rfl
       rotate_left
       · simp only [Act.put,zA,zB,zC,i64_w,i32_w]
         rfl
       refine take_ (i:=0) (N:=some 39) (v:=?_) (a':=?_) #[true,true,true,true,true,true,true,true,true,true,true,true,true,true,false,false] rfl rfl (take_ofW HT_.out HW_.out (by kernel_rfl)) (fun _ _ _ h=>h) (Or.inl ⟨by rfl,?_⟩) hHeld ?_ ?_
       rotate_left
       · rintro w' ⟨s0,s1,s2⟩
         go_simp;with_reducible rfl
       rotate_left
       · simp only [Act.put,zA,zB,zC,i64_w,i32_w]
         rfl
       refine one_ (i:=14) (N:=none) #[true,true,true,true,true,true,true,true,true,true,true,true,true,true,true,false] rfl rfl (one_of HT_.out (by kernel_rfl)) (by decide) (fun K hK=>?_)
       have hs123 : w122.cell? ⟨gb123,0,none⟩ = some (.int .i64 0):=(blk_cell BK123.out 0).trans rfl
       have hfs123:=blk_frozen BK123.out 0
       have hns123_1:=NB135_123.out;have hms123_1:=NB123_135.out
       have hs124 : w122.cell? ⟨gb123,1,none⟩ = some (.int .i64 0):=(blk_cell BK123.out 1).trans rfl
       have hfs124:=blk_frozen BK123.out 1
       have hns124_1:=NB135_123.out;have hms124_1:=NB123_135.out
       have hs125 : w122.cell? ⟨gb123,2,none⟩ = some (.int .i64 0):=(blk_cell BK123.out 2).trans rfl
       have hfs125:=blk_frozen BK123.out 2
       have hns125_1:=NB135_123.out;have hms125_1:=NB123_135.out
       refine skip_ (w1:=?_) (by rfl) rfl ?_ ?_
       rotate_left
       · go_simp
         rfl
       refine hK.out _ _ ⟨((cell_far (p:=⟨gb123,_,none⟩) NB135_123.out _).trans (((cell_far (p:=⟨gb123,_,none⟩) NB135_123.out _).trans (((cell_far (p:=⟨gb123,_,none⟩) NB135_123.out _).trans (hHeld.1)))))),((cell_far (p:=⟨gb123,_,none⟩) NB135_123.out _).trans (((cell_far (p:=⟨gb123,_,none⟩) NB135_123.out _).trans (((cell_far (p:=⟨gb123,_,none⟩) NB135_123.out _).trans (hHeld.2.1)))))),((cell_far (p:=⟨gb123,_,none⟩) NB135_123.out _).trans (((cell_far (p:=⟨gb123,_,none⟩) NB135_123.out _).trans (((cell_far (p:=⟨gb123,_,none⟩) NB135_123.out _).trans (hHeld.2.2))))))⟩ (fun hHeld=>?_)
       clear hK K
       refine pure_ (i:=15) (N:=some 3) (v:=?_) (a':=?_) #[true,true,true,true,true,true,true,true,true,true,true,true,true,true,true,true] rfl rfl (any_of HT_.out (by kernel_rfl)) (fun _ _ _ h=>h) (Or.inl ⟨by rfl,?_⟩) ?_ ?_
       rotate_left
       · intro w'
         go_simp;with_reducible rfl
       rotate_left
       · simp only [Act.put,zA,zB,zC,i64_w,i32_w]
         rfl
       refine done_ (done_of HT_.out (by kernel_rfl)) ?_
       try go_wp2
       refine bodyPost_ret (results_ct rfl _ _ gb123 26 #[.int .i64 t132,.int .i64 t134,.int .i64 0] (0,0) _ rfl (by (with_reducible repeat (first|refine zD ?_ _|refine zF ?_|refine zE ?_ _));refine blk_put (cs:=#[.int .i64 t132,.int .i64 t134,.int .i64 0]) ?_ 2 _ rfl;(with_reducible repeat (first|refine zD ?_ _|refine zF ?_|refine zE ?_ _));refine blk_put (cs:=#[.int .i64 t132,.int .i64 0,.int .i64 0]) ?_ 1 _ rfl;(with_reducible repeat (first|refine zD ?_ _|refine zF ?_|refine zE ?_ _));refine blk_put (cs:=#[.int .i64 0,.int .i64 0,.int .i64 0]) ?_ 0 _ rfl;(with_reducible repeat (first|refine zD ?_ _|refine zF ?_|refine zE ?_ _));exact BK123.out) Tryd.underlying26 rfl (by kernel_rfl)) rfl ?_
       exact ⟨by first|rfl|(simp [errW_none,errW_some] <;> rfl)|(simp [*,errW_none,errW_some] <;> rfl),by repeat (first|(with_reducible first|exact HB.out|apply zJ|apply zG|apply zH|refine zK ?_ GE123.out|refine zK ?_ GE135.out)|exact HB.out)⟩
     rw [if_pos c77] at H
     have c77b0 : decide ((t128.length : Int) < 3) = true:=decide_eq_true c77
     have c77b1 : decide (t128.length < 3) = true:=decide_eq_true (by omega)
     clear c77;replace H:=Option.bind_eq_some_iff.mp H
     obtain ⟨t140,A780,H⟩:=H
     replace H : (if t140 = true then ((spec_rdText.f kj2 t132 t134 0).bind fun t141=>(some (t132,t134,0,(t141.toList == a0.toList)))) else (some (t132,t134,0,false))) = some (r1,r2,r3,r4):=H
     have A78:=zI A780;clear A780
     by_cases c79 : t140 = true
     rotate_left
     · replace c79:=Bool.eq_false_iff.mpr c79
       subst c79
       have H1 : (some (t132,t134,0,false)) = some (r1,r2,r3,r4):=by rw [if_neg (show ¬ (false = true) by decide)] at H;exact H
       clear H;have H:=H1;clear H1
       simp only [Option.some.injEq,Prod.mk.injEq] at H
       obtain ⟨rfl,rfl,rfl,rfl⟩:=H
       obtain ⟨Ao97,co97,eo97⟩:=Kd.R_slice HO_4.out
       subst eo97
       have p127 : 0 ≤ (1 : Int):=(by omega)
       have q127 : 1 < (t124.length : Int):=of_decide_eq_true (by first|(with_reducible assumption)|assumption)
       obtain ⟨ad127,e127,hx127_0⟩:=Kd.at_string (Kd.R_reads' HO_4.out).2.2 1 p127 q127
       cases e127
       (try simp only [show (1 : Int).toNat = 1 from rfl,Nat.reduceMul,Nat.reduceEqDiff,Go.Addr.add,↓reduceIte] at hx127_0)
       have qi127 : (1 < t124.length) = True:=eq_true (by omega)
       (try rw [show ((1 : Int)).toNat = 1 from rfl] at hx127_0)
       replace p127:=eq_true p127
       replace q127:=eq_true q127
       try go_wp2_with (first|((with_reducible refine gate_callee (f:=24) rfl ?_);refine goesL_ (some 21) rfl rfl Tryd.func24 (by kernel_rfl) rfl #[.string (rdOf ByteArray.empty t124 1),.int .u8 47] rfl (by (try simp only [List.map_toArray,List.map_cons,List.map_nil]);first|done|rfl|(simp only [List.length_drop,List.length_take];rfl)) ?_;(with_reducible refine (spec_l1Split.calls kj2 (rdOf ByteArray.empty t124 1) 47 t128 _ A11.out).mono ?_);rintro e w98 ⟨v129,rfl,ho0,hb⟩;refine ⟨_,rfl,?_⟩;have n0_:=zI (Kd.R_elder' (by (with_reducible repeat (first|apply Kd.R_alloc|apply Kd.R_drewN|apply Kd.R_drew));exact HO_4.out) (Kd.R_base ho0) hb);have n1_:=zI (Kd.R_lower (Kd.R_new' ho0 (Kd.R_lt (by (with_reducible repeat (first|apply Kd.R_alloc|apply Kd.R_drewN|apply Kd.R_drew));exact HO_4.out))) (below_size (by repeat (first|(with_reducible first|exact HB.out|apply zJ|apply zG|apply zH|refine zK ?_ GE123.out)|exact HB.out))));have n2_:=zI (blk_below (g:=gb123) (o:=.cells #[.int .i64 0,.int .i64 0,.int .i64 0] 26 (0,0)) (by (with_reducible repeat (first|refine zD ?_ _|refine zF ?_|refine zE ?_ _));exact BK123.out) hb);have n3_:=zI (below_step (by repeat (first|(with_reducible first|exact HB.out|apply zJ|apply zG|apply zH|refine zK ?_ GE123.out)|exact HB.out)) hb);clear HO_4;clear BK123;clear HB;have HO_4:=n0_;have HO130:=n1_;have BK123:=n2_;have HB:=n3_;clear n0_ n1_ n2_ n3_;(try clear hb);(try clear hb2);(try clear hk);(try clear hi);(try clear ho0)))
       have n0_:=zI (Kd.R_drew HO_4.out)
       have n1_:=zI (Kd.R_drew HO130.out)
       have n2_:=zI (zF BK123.out)
       have n3_:=zI (zH HB.out)
       clear HO_4 HO130 BK123 HB;have HO_4:=n0_;have HO130:=n1_;have BK123:=n2_;have HB:=n3_;clear n0_ n1_ n2_ n3_
       have p131 : 0 ≤ (0 : Int):=(by omega)
       have q131 : 0 < (t124.length : Int):=of_decide_eq_true (by first|(with_reducible assumption)|assumption)
       obtain ⟨ad131,e131,hx131_0⟩:=Kd.at_string (Kd.R_reads' HO_4.out).2.2 0 p131 q131
       obtain rfl : ad127 = ad131:=(by injection e131)
       have qi131 : (0 < t124.length) = True:=eq_true (by omega)
       (try rw [show ((0 : Int)).toNat = 0 from rfl] at hx131_0);(try rw [Addr.add_zero'] at hx131_0)
       replace p131:=eq_true p131
       replace q131:=eq_true q131
       obtain ⟨Ao100,co100,eo100⟩:=Kd.R_slice HO130.out
       (first|subst eo100|(injection eo100 with f1_ f2_ f3_;have f4_:=f1_.symm;have f5_:=f3_.symm;clear f1_ f2_ f3_;subst f4_;subst f5_))
       have p133 : 0 ≤ (0 : Int):=(by omega)
       have q133 : 0 < (t128.length : Int):=of_decide_eq_true (by first|(with_reducible assumption)|assumption)
       obtain ⟨ad133,e133,hx133_0⟩:=Kd.at_string (Kd.R_reads' HO130.out).2.2 0 p133 q133
       cases e133
       have qi133 : (0 < t128.length) = True:=eq_true (by omega)
       (try rw [show ((0 : Int)).toNat = 0 from rfl] at hx133_0);(try rw [Addr.add_zero'] at hx133_0)
       replace p133:=eq_true p133
       replace q133:=eq_true q133
       refine start_ (n:=11) (S:=fun w'=>w'.cell? ad127 = some (.string (rdOf ByteArray.empty t124 0)) ∧ w'.cell? ad133 = some (.string (rdOf ByteArray.empty t128 0))) (ds:=[]) #[false,false,false,false,false,false,false,false,false,false,false] (by kernel_rfl) rfl rfl ⟨hx131_0,hx133_0⟩ (fun hHeld=>?_);refine with_tabW spec_rdParse.tab5 spec_rdParse.bits5 (fun HT_ HW_=>?_)
       generalize w98.drew = w99 at HO_4 HO130 BK123 HB hx131_0 hx133_0 hHeld ⊢
       refine pure_ (i:=0) (N:=some 22) (v:=?_) (a':=?_) #[true,false,false,false,false,false,false,false,false,false,false] rfl rfl (any_of HT_.out (by kernel_rfl)) (fun _ _ _ h=>h) (Or.inl ⟨by rfl,?_⟩) ?_ ?_
       rotate_left
       · intro w'
         go_simp;with_reducible rfl
       rotate_left
       · simp only [Act.put,zA,zB,zC,i64_w,i32_w]
         rfl
       refine pure_ (i:=1) (N:=some 23) (v:=?_) (a':=?_) #[true,true,false,false,false,false,false,false,false,false,false] rfl rfl (any_of HT_.out (by kernel_rfl)) (fun _ _ _ h=>h) (Or.inl ⟨by rfl,?_⟩) ?_ ?_
       rotate_left
       · intro w'
         go_simp;with_reducible rfl
       rotate_left
       · simp only [Act.put,zA,zB,zC,i64_w,i32_w]
         rfl
       refine pure_ (i:=4) (N:=some 26) (v:=?_) (a':=?_) #[true,true,false,false,true,false,false,false,false,false,false] rfl rfl (any_of HT_.out (by kernel_rfl)) (fun _ _ _ h=>h) (Or.inl ⟨by rfl,?_⟩) ?_ ?_
       rotate_left
       · intro w'
         go_simp;with_reducible rfl
       rotate_left
       · simp only [Act.put,zA,zB,zC,i64_w,i32_w]
         rfl
       refine pure_ (i:=5) (N:=some 27) (v:=?_) (a':=?_) #[true,true,false,false,true,true,false,false,false,false,false] rfl rfl (any_of HT_.out (by kernel_rfl)) (fun _ _ _ h=>h) (Or.inl ⟨by rfl,?_⟩) ?_ ?_
       rotate_left
       · intro w'
         go_simp;with_reducible rfl
       rotate_left
       · simp only [Act.put,zA,zB,zC,i64_w,i32_w]
         rfl
       refine take_ (i:=2) (N:=some 24) (v:=?_) (a':=?_) #[true,true,true,false,true,true,false,false,false,false,false] rfl rfl (take_ofW HT_.out HW_.out (by kernel_rfl)) (fun _ _ _ h=>h) (Or.inl ⟨by rfl,?_⟩) hHeld ?_ ?_
       rotate_left
       · rintro w' ⟨s0,s1⟩
         go_simp;with_reducible rfl
       rotate_left
       · simp only [Act.put,zA,zB,zC,i64_w,i32_w]
         rfl
       refine take_ (i:=6) (N:=some 28) (v:=?_) (a':=?_) #[true,true,true,false,true,true,true,false,false,false,false] rfl rfl (take_ofW HT_.out HW_.out (by kernel_rfl)) (fun _ _ _ h=>h) (Or.inl ⟨by rfl,?_⟩) hHeld ?_ ?_
       rotate_left
       · rintro w' ⟨s0,s1⟩
         go_simp;with_reducible rfl
       rotate_left
       · simp only [Act.put,zA,zB,zC,i64_w,i32_w]
         rfl
       refine join_ (σ:=Nat) 1 #[true,true,true,true,true,true,true,true,true,true,false] (fun s_=>[(25,.int .i64 t132),(29,.int .i64 t134),(6,.pointer (some ⟨s_,0,none⟩)),(30,.agg #[.int .i64 t132,.int .i64 t134,.int .i64 0])]) (fun s_ w'=>(w'.cell? ad127 = some (.string (rdOf ByteArray.empty t124 0)) ∧ w'.cell? ad133 = some (.string (rdOf ByteArray.empty t128 0))) ∧ (Kd.R Kd.string 9 w' w.heap.size (fun k_=>some k_ ≠ (.slice (some ad127) t124.length co97 : Value).ownBlock) (.slice (some ad133) t128.length co100) t128) ∧ (Kd.R Kd.string 9 w' w.heap.size (fun k_=>some k_ ≠ (.slice (some ad133) t128.length co100 : Value).ownBlock) (.slice (some ad127) t124.length co97) t124) ∧ (w'.heap[gb123]? = some (.cells #[.int .i64 0,.int .i64 0,.int .i64 0] 26 (0,0))) ∧ (w'.heap[s_]? = some (.cells #[.int .i64 0,.int .i64 0,.int .i64 0] 26 (0,0))) ∧ (w.heap.size ≤ s_) ∧ (w.heap.size ≤ s_) ∧ (gb123 ≠ s_) ∧ (s_ ≠ gb123) ∧ (Below w.heap.size w w')) ?_ ?_
       rotate_left
       · intro hCont
         refine two_ (i:=3) (j:=9) (Ni:=some 25) (Nj:=some 6) #[true,true,true,true,true,true,true,false,false,false,false] #[true,true,true,false,true,true,true,false,false,true,false] rfl rfl rfl rfl (two_of HT_.out (by kernel_rfl)) (by decide) (by decide) (fun K hK=>?_) (fun K hK=>?_)
         rotate_left
         · skip
           refine box_step ?hg (N:=6) ?hd (cs:=#[.int .i64 0,.int .i64 0,.int .i64 0]) (t:=26) ?hr ?_;(case hd=>rfl);(case hg=>rfl);(case hr=>first|(go_simp;done)|(go_simp;rfl))
           intro gb135 hg w101 hbox hb
           have HS0_:=(hb.cell (World.block_lt_of_cell? _ _ (hHeld.1))).trans (hHeld.1)
           have HS1_:=(hb.cell (World.block_lt_of_cell? _ _ (hHeld.2))).trans (hHeld.2)
           have n0_:=zI (Kd.R_below (by (with_reducible repeat (first|apply Kd.R_alloc|apply Kd.R_drewN|apply Kd.R_drew));exact HO_4.out) hb)
           have n1_:=zI (Kd.R_below (by (with_reducible repeat (first|apply Kd.R_alloc|apply Kd.R_drewN|apply Kd.R_drew));exact HO130.out) hb)
           have n2_:=zI (blk_below (g:=gb123) (o:=.cells #[.int .i64 0,.int .i64 0,.int .i64 0] 26 (0,0)) (by (with_reducible repeat (first|refine zD ?_ _|refine zF ?_|refine zE ?_ _));exact BK123.out) hb)
           have n3_:=zI (below_step (by repeat (first|(with_reducible first|exact HB.out|apply zJ|apply zG|apply zH|refine zK ?_ GE123.out)|exact HB.out)) hb)
           have n4_:=zI (hbox)
           have n5_:=zI ((by rw [hg];exact (below_size (by repeat (first|(with_reducible first|exact HB.out|apply zJ|apply zG|apply zH|refine zK ?_ GE123.out)|exact HB.out))) : w.heap.size ≤ gb135))
           have n6_:=zI ((by rw [hg];exact (below_size (by repeat (first|(with_reducible first|exact HB.out|apply zJ|apply zG|apply zH|refine zK ?_ GE123.out)|exact HB.out))) : w.heap.size ≤ gb135))
           have n7_:=zI ((by rw [hg];exact Nat.ne_of_lt (blk_lt (g:=gb123) (o:=.cells #[.int .i64 0,.int .i64 0,.int .i64 0] 26 (0,0)) (by (with_reducible repeat (first|refine zD ?_ _|refine zF ?_|refine zE ?_ _));exact BK123.out)) : gb123 ≠ gb135))
           have n8_:=zI ((by rw [hg];exact Nat.ne_of_gt (blk_lt (g:=gb123) (o:=.cells #[.int .i64 0,.int .i64 0,.int .i64 0] 26 (0,0)) (by (with_reducible repeat (first|refine zD ?_ _|refine zF ?_|refine zE ?_ _));exact BK123.out)) : gb135 ≠ gb123))
           clear HO_4 HO130 BK123 HB;have HO_4:=n0_;have HO130:=n1_;have BK123:=n2_;have HB:=n3_;have BK135:=n4_;have GW135:=n5_;have GE135:=n6_;have NB123_135:=n7_;have NB135_123:=n8_;clear n0_ n1_ n2_ n3_ n4_ n5_ n6_ n7_ n8_ hb hbox hg
           refine hK.out _ _ ⟨HS0_,HS1_⟩ (fun hHeld=>?_)
           clear hK K
           refine norm_ (a':=?_) ?_ ?_
           rotate_left
           · show Act.put _ (some 6) _ = _
             simp only [Act.put,zA,zB,zC,i64_w,i32_w]
             rfl
           refine one_ (i:=3) (N:=some 25) #[true,true,true,true,true,true,true,false,false,true,false] rfl rfl (one_of HT_.out (by kernel_rfl)) (by decide) (fun K hK=>?_)
           refine goes_ Tryd.func25 (by kernel_rfl) rfl #[.string (rdOf ByteArray.empty t124 0)] (by rfl) rfl rfl (by (try simp only [List.map_toArray,List.map_cons,List.map_nil]);first|done|rfl|(simp only [List.length_drop,List.length_take];rfl)) ?_
           with_reducible refine (spec_l1Read.calls kj2 (rdOf ByteArray.empty t124 0) t132 _ A13.out).mono ?_
           rintro e w' ⟨rfl,⟨nd,rfl⟩⟩
           refine ⟨_,rfl,?_⟩
           refine hK.out _ _ ⟨hHeld.1,hHeld.2⟩ (fun hHeld=>?_)
           clear hK K
           refine norm_ (a':=?_) ?_ ?_
           rotate_left
           · show Act.put _ (some 25) _ = _
             simp only [Act.put,zA,zB,zC,i64_w,i32_w]
             rfl
           refine one_ (i:=7) (N:=some 29) #[true,true,true,true,true,true,true,true,false,true,false] rfl rfl (one_of HT_.out (by kernel_rfl)) (by decide) (fun K hK=>?_)
           refine goes_ Tryd.func25 (by kernel_rfl) rfl #[.string (rdOf ByteArray.empty t128 0)] (by rfl) rfl rfl (by (try simp only [List.map_toArray,List.map_cons,List.map_nil]);first|done|rfl|(simp only [List.length_drop,List.length_take];rfl)) ?_
           with_reducible refine (spec_l1Read.calls kj2 (rdOf ByteArray.empty t128 0) t134 _ A15.out).mono ?_
           rintro e w' ⟨rfl,⟨nd,rfl⟩⟩
           refine ⟨_,rfl,?_⟩
           refine hK.out _ _ ⟨hHeld.1,hHeld.2⟩ (fun hHeld=>?_)
           clear hK K
           refine norm_ (a':=?_) ?_ ?_
           rotate_left
           · show Act.put _ (some 29) _ = _
             simp only [Act.put,zA,zB,zC,i64_w,i32_w]
             rfl
           refine pure_ (i:=8) (N:=some 30) (v:=?_) (a':=?_) #[true,true,true,true,true,true,true,true,true,true,false] rfl rfl (any_of HT_.out (by kernel_rfl)) (fun _ _ _ h=>h) (Or.inl ⟨by rfl,?_⟩) ?_ ?_
           rotate_left
           · intro w'
             go_simp;with_reducible rfl
           rotate_left
           · simp only [Act.put,zA,zB,zC,i64_w,i32_w]
             rfl
           exact norm_ (by simp only [putAll,Act.put,zA,zB,zC]) (hCont (gb135) _ ⟨hHeld,(by (with_reducible repeat (first|apply Kd.R_alloc|apply Kd.R_drewN|apply Kd.R_drew));exact Kd.R_mono HO130.out (fun _ hk=>hk.2)),(by (with_reducible repeat (first|apply Kd.R_alloc|apply Kd.R_drewN|apply Kd.R_drew));exact Kd.R_mono HO_4.out (fun _ hk=>hk.2)),(by (with_reducible repeat (first|refine zD ?_ _|refine zF ?_|refine zE ?_ _));exact BK123.out),(by (with_reducible repeat (first|refine zD ?_ _|refine zF ?_|refine zE ?_ _));exact BK135.out),GW135.out,GE135.out,NB123_135.out,NB135_123.out,(by repeat (first|(with_reducible first|exact HB.out|apply zJ|apply zG|apply zH|refine zK ?_ GE123.out|refine zK ?_ GE135.out)|exact HB.out))⟩)
         skip
         refine goes_ Tryd.func25 (by kernel_rfl) rfl #[.string (rdOf ByteArray.empty t124 0)] (by rfl) rfl rfl (by (try simp only [List.map_toArray,List.map_cons,List.map_nil]);first|done|rfl|(simp only [List.length_drop,List.length_take];rfl)) ?_
         with_reducible refine (spec_l1Read.calls kj2 (rdOf ByteArray.empty t124 0) t132 _ A13.out).mono ?_
         rintro e w' ⟨rfl,⟨nd,rfl⟩⟩
         refine ⟨_,rfl,?_⟩
         refine hK.out _ _ ⟨hHeld.1,hHeld.2⟩ (fun hHeld=>?_)
         clear hK K
         refine norm_ (a':=?_) ?_ ?_
         rotate_left
         · show Act.put _ (some 25) _ = _
           simp only [Act.put,zA,zB,zC,i64_w,i32_w]
           rfl
         refine two_ (i:=7) (j:=9) (Ni:=some 29) (Nj:=some 6) #[true,true,true,true,true,true,true,true,false,false,false] #[true,true,true,true,true,true,true,false,false,true,false] rfl rfl rfl rfl (two_of HT_.out (by kernel_rfl)) (by decide) (by decide) (fun K hK=>?_) (fun K hK=>?_)
         · skip
           refine goes_ Tryd.func25 (by kernel_rfl) rfl #[.string (rdOf ByteArray.empty t128 0)] (by rfl) rfl rfl (by (try simp only [List.map_toArray,List.map_cons,List.map_nil]);first|done|rfl|(simp only [List.length_drop,List.length_take];rfl)) ?_
           with_reducible refine (spec_l1Read.calls kj2 (rdOf ByteArray.empty t128 0) t134 _ A15.out).mono ?_
           rintro e w' ⟨rfl,⟨nd,rfl⟩⟩
           refine ⟨_,rfl,?_⟩
           refine hK.out _ _ ⟨hHeld.1,hHeld.2⟩ (fun hHeld=>?_)
           clear hK K
           refine norm_ (a':=?_) ?_ ?_
           rotate_left
           · show Act.put _ (some 29) _ = _
             simp only [Act.put,zA,zB,zC,i64_w,i32_w]
             rfl
           refine pure_ (i:=8) (N:=some 30) (v:=?_) (a':=?_) #[true,true,true,true,true,true,true,true,true,false,false] rfl rfl (any_of HT_.out (by kernel_rfl)) (fun _ _ _ h=>h) (Or.inl ⟨by rfl,?_⟩) ?_ ?_
           rotate_left
           · intro w'
             go_simp;with_reducible rfl
           rotate_left
           · simp only [Act.put,zA,zB,zC,i64_w,i32_w]
             rfl
           refine one_ (i:=9) (N:=some 6) #[true,true,true,true,true,true,true,true,true,true,false] rfl rfl (one_of HT_.out (by kernel_rfl)) (by decide) (fun K hK=>?_)
           refine box_step ?hg (N:=6) ?hd (cs:=#[.int .i64 0,.int .i64 0,.int .i64 0]) (t:=26) ?hr ?_;(case hd=>rfl);(case hg=>rfl);(case hr=>first|(go_simp;done)|(go_simp;rfl))
           intro gb135 hg w101 hbox hb
           have HS0_:=(hb.cell (World.block_lt_of_cell? _ _ (hHeld.1))).trans (hHeld.1)
           have HS1_:=(hb.cell (World.block_lt_of_cell? _ _ (hHeld.2))).trans (hHeld.2)
           have n0_:=zI (Kd.R_below (by (with_reducible repeat (first|apply Kd.R_alloc|apply Kd.R_drewN|apply Kd.R_drew));exact HO_4.out) hb)
           have n1_:=zI (Kd.R_below (by (with_reducible repeat (first|apply Kd.R_alloc|apply Kd.R_drewN|apply Kd.R_drew));exact HO130.out) hb)
           have n2_:=zI (blk_below (g:=gb123) (o:=.cells #[.int .i64 0,.int .i64 0,.int .i64 0] 26 (0,0)) (by (with_reducible repeat (first|refine zD ?_ _|refine zF ?_|refine zE ?_ _));exact BK123.out) hb)
           have n3_:=zI (below_step (by repeat (first|(with_reducible first|exact HB.out|apply zJ|apply zG|apply zH|refine zK ?_ GE123.out)|exact HB.out)) hb)
           have n4_:=zI (hbox)
           have n5_:=zI ((by rw [hg];exact (below_size (by repeat (first|(with_reducible first|exact HB.out|apply zJ|apply zG|apply zH|refine zK ?_ GE123.out)|exact HB.out))) : w.heap.size ≤ gb135))
           have n6_:=zI ((by rw [hg];exact (below_size (by repeat (first|(with_reducible first|exact HB.out|apply zJ|apply zG|apply zH|refine zK ?_ GE123.out)|exact HB.out))) : w.heap.size ≤ gb135))
           have n7_:=zI ((by rw [hg];exact Nat.ne_of_lt (blk_lt (g:=gb123) (o:=.cells #[.int .i64 0,.int .i64 0,.int .i64 0] 26 (0,0)) (by (with_reducible repeat (first|refine zD ?_ _|refine zF ?_|refine zE ?_ _));exact BK123.out)) : gb123 ≠ gb135))
           have n8_:=zI ((by rw [hg];exact Nat.ne_of_gt (blk_lt (g:=gb123) (o:=.cells #[.int .i64 0,.int .i64 0,.int .i64 0] 26 (0,0)) (by (with_reducible repeat (first|refine zD ?_ _|refine zF ?_|refine zE ?_ _));exact BK123.out)) : gb135 ≠ gb123))
           clear HO_4 HO130 BK123 HB;have HO_4:=n0_;have HO130:=n1_;have BK123:=n2_;have HB:=n3_;have BK135:=n4_;have GW135:=n5_;have GE135:=n6_;have NB123_135:=n7_;have NB135_123:=n8_;clear n0_ n1_ n2_ n3_ n4_ n5_ n6_ n7_ n8_ hb hbox hg
           refine hK.out _ _ ⟨HS0_,HS1_⟩ (fun hHeld=>?_)
           clear hK K
           refine norm_ (a':=?_) ?_ ?_
           rotate_left
           · show Act.put _ (some 6) _ = _
             simp only [Act.put,zA,zB,zC,i64_w,i32_w]
             rfl
           exact norm_ (by simp only [putAll,Act.put,zA,zB,zC]) (hCont (gb135) _ ⟨hHeld,(by (with_reducible repeat (first|apply Kd.R_alloc|apply Kd.R_drewN|apply Kd.R_drew));exact Kd.R_mono HO130.out (fun _ hk=>hk.2)),(by (with_reducible repeat (first|apply Kd.R_alloc|apply Kd.R_drewN|apply Kd.R_drew));exact Kd.R_mono HO_4.out (fun _ hk=>hk.2)),(by (with_reducible repeat (first|refine zD ?_ _|refine zF ?_|refine zE ?_ _));exact BK123.out),(by (with_reducible repeat (first|refine zD ?_ _|refine zF ?_|refine zE ?_ _));exact BK135.out),GW135.out,GE135.out,NB123_135.out,NB135_123.out,(by repeat (first|(with_reducible first|exact HB.out|apply zJ|apply zG|apply zH|refine zK ?_ GE123.out|refine zK ?_ GE135.out)|exact HB.out))⟩)
         skip
         refine box_step ?hg (N:=6) ?hd (cs:=#[.int .i64 0,.int .i64 0,.int .i64 0]) (t:=26) ?hr ?_;(case hd=>rfl);(case hg=>rfl);(case hr=>first|(go_simp;done)|(go_simp;rfl))
         intro gb135 hg w101 hbox hb
         have HS0_:=(hb.cell (World.block_lt_of_cell? _ _ (hHeld.1))).trans (hHeld.1)
         have HS1_:=(hb.cell (World.block_lt_of_cell? _ _ (hHeld.2))).trans (hHeld.2)
         have n0_:=zI (Kd.R_below (by (with_reducible repeat (first|apply Kd.R_alloc|apply Kd.R_drewN|apply Kd.R_drew));exact HO_4.out) hb)
         have n1_:=zI (Kd.R_below (by (with_reducible repeat (first|apply Kd.R_alloc|apply Kd.R_drewN|apply Kd.R_drew));exact HO130.out) hb)
         have n2_:=zI (blk_below (g:=gb123) (o:=.cells #[.int .i64 0,.int .i64 0,.int .i64 0] 26 (0,0)) (by (with_reducible repeat (first|refine zD ?_ _|refine zF ?_|refine zE ?_ _));exact BK123.out) hb)
         have n3_:=zI (below_step (by repeat (first|(with_reducible first|exact HB.out|apply zJ|apply zG|apply zH|refine zK ?_ GE123.out)|exact HB.out)) hb)
         have n4_:=zI (hbox)
         have n5_:=zI ((by rw [hg];exact (below_size (by repeat (first|(with_reducible first|exact HB.out|apply zJ|apply zG|apply zH|refine zK ?_ GE123.out)|exact HB.out))) : w.heap.size ≤ gb135))
         have n6_:=zI ((by rw [hg];exact (below_size (by repeat (first|(with_reducible first|exact HB.out|apply zJ|apply zG|apply zH|refine zK ?_ GE123.out)|exact HB.out))) : w.heap.size ≤ gb135))
         have n7_:=zI ((by rw [hg];exact Nat.ne_of_lt (blk_lt (g:=gb123) (o:=.cells #[.int .i64 0,.int .i64 0,.int .i64 0] 26 (0,0)) (by (with_reducible repeat (first|refine zD ?_ _|refine zF ?_|refine zE ?_ _));exact BK123.out)) : gb123 ≠ gb135))
         have n8_:=zI ((by rw [hg];exact Nat.ne_of_gt (blk_lt (g:=gb123) (o:=.cells #[.int .i64 0,.int .i64 0,.int .i64 0] 26 (0,0)) (by (with_reducible repeat (first|refine zD ?_ _|refine zF ?_|refine zE ?_ _));exact BK123.out)) : gb135 ≠ gb123))
         clear HO_4 HO130 BK123 HB;have HO_4:=n0_;have HO130:=n1_;have BK123:=n2_;have HB:=n3_;have BK135:=n4_;have GW135:=n5_;have GE135:=n6_;have NB123_135:=n7_;have NB135_123:=n8_;clear n0_ n1_ n2_ n3_ n4_ n5_ n6_ n7_ n8_ hb hbox hg
         refine hK.out _ _ ⟨HS0_,HS1_⟩ (fun hHeld=>?_)
         clear hK K
         refine norm_ (a':=?_) ?_ ?_
         rotate_left
         · show Act.put _ (some 6) _ = _
           simp only [Act.put,zA,zB,zC,i64_w,i32_w]
           rfl
         refine one_ (i:=7) (N:=some 29) #[true,true,true,true,true,true,true,true,false,true,false] rfl rfl (one_of HT_.out (by kernel_rfl)) (by decide) (fun K hK=>?_)
         refine goes_ Tryd.func25 (by kernel_rfl) rfl #[.string (rdOf ByteArray.empty t128 0)] (by rfl) rfl rfl (by (try simp only [List.map_toArray,List.map_cons,List.map_nil]);first|done|rfl|(simp only [List.length_drop,List.length_take];rfl)) ?_
         with_reducible refine (spec_l1Read.calls kj2 (rdOf ByteArray.empty t128 0) t134 _ A15.out).mono ?_
         rintro e w' ⟨rfl,⟨nd,rfl⟩⟩
         refine ⟨_,rfl,?_⟩
         refine hK.out _ _ ⟨hHeld.1,hHeld.2⟩ (fun hHeld=>?_)
         clear hK K
         refine norm_ (a':=?_) ?_ ?_
         rotate_left
         · show Act.put _ (some 29) _ = _
           simp only [Act.put,zA,zB,zC,i64_w,i32_w]
           rfl
         refine pure_ (i:=8) (N:=some 30) (v:=?_) (a':=?_) #[true,true,true,true,true,true,true,true,true,true,false] rfl rfl (any_of HT_.out (by kernel_rfl)) (fun _ _ _ h=>h) (Or.inl ⟨by rfl,?_⟩) ?_ ?_
         rotate_left
         · intro w'
           go_simp;with_reducible rfl
         rotate_left
         · simp only [Act.put,zA,zB,zC,i64_w,i32_w]
           rfl
         exact norm_ (by simp only [putAll,Act.put,zA,zB,zC]) (hCont (gb135) _ ⟨hHeld,(by (with_reducible repeat (first|apply Kd.R_alloc|apply Kd.R_drewN|apply Kd.R_drew));exact Kd.R_mono HO130.out (fun _ hk=>hk.2)),(by (with_reducible repeat (first|apply Kd.R_alloc|apply Kd.R_drewN|apply Kd.R_drew));exact Kd.R_mono HO_4.out (fun _ hk=>hk.2)),(by (with_reducible repeat (first|refine zD ?_ _|refine zF ?_|refine zE ?_ _));exact BK123.out),(by (with_reducible repeat (first|refine zD ?_ _|refine zF ?_|refine zE ?_ _));exact BK135.out),GW135.out,GE135.out,NB123_135.out,NB135_123.out,(by repeat (first|(with_reducible first|exact HB.out|apply zJ|apply zG|apply zH|refine zK ?_ GE123.out|refine zK ?_ GE135.out)|exact HB.out))⟩)
       rintro gb135 w102 ⟨hS_,h0_,h1_,h2_,h3_,h4_,h5_,h6_,h7_,h8_⟩
       have n0_ : Aside0 (Kd.R Kd.string 9 w102 w.heap.size (fun k_=>some k_ ≠ (.slice (some ad127) t124.length co97 : Value).ownBlock) (.slice (some ad133) t128.length co100) t128):=⟨h0_⟩
       have n1_ : Aside0 (Kd.R Kd.string 9 w102 w.heap.size (fun k_=>some k_ ≠ (.slice (some ad133) t128.length co100 : Value).ownBlock) (.slice (some ad127) t124.length co97) t124):=⟨h1_⟩
       have n2_ : Aside0 (w102.heap[gb123]? = some (.cells #[.int .i64 0,.int .i64 0,.int .i64 0] 26 (0,0))):=⟨h2_⟩
       have n3_ : Aside0 (w102.heap[gb135]? = some (.cells #[.int .i64 0,.int .i64 0,.int .i64 0] 26 (0,0))):=⟨h3_⟩
       have n4_ : Aside0 (w.heap.size ≤ gb135):=⟨h4_⟩
       have n5_ : Aside0 (w.heap.size ≤ gb135):=⟨h5_⟩
       have n6_ : Aside0 (gb123 ≠ gb135):=⟨h6_⟩
       have n7_ : Aside0 (gb135 ≠ gb123):=⟨h7_⟩
       have n8_ : Aside0 (Below w.heap.size w w102):=⟨h8_⟩
       clear HO_4 HO130 BK123 HB h0_ h1_ h2_ h3_ h4_ h5_ h6_ h7_ h8_;have HO130:=n0_;have HO_4:=n1_;have BK123:=n2_;have BK135:=n3_;have GW135:=n4_;have GE135:=n5_;have NB123_135:=n6_;have NB135_123:=n7_;have HB:=n8_;clear n0_ n1_ n2_ n3_ n4_ n5_ n6_ n7_ n8_
       have hHeld : w102.cell? ad127 = some (.string (rdOf ByteArray.empty t124 0)) ∧ w102.cell? ad133 = some (.string (rdOf ByteArray.empty t128 0)):=hS_
       refine norm_ (a':=?_) ?_ ?_
       rotate_left
       · simp only [putAll,Act.put,zA,zB,zC]
         rfl
       refine one_ (i:=10) (N:=none) #[true,true,true,true,true,true,true,true,true,true,true] rfl rfl (one_of HT_.out (by kernel_rfl)) (by decide) (fun K hK=>?_)
       have hs103 : w102.cell? ⟨gb135,0,none⟩ = some (.int .i64 0):=(blk_cell BK135.out 0).trans rfl
       have hfs103:=blk_frozen BK135.out 0
       have hns103_0:=NB123_135.out;have hms103_0:=NB135_123.out
       have hs104 : w102.cell? ⟨gb135,1,none⟩ = some (.int .i64 0):=(blk_cell BK135.out 1).trans rfl
       have hfs104:=blk_frozen BK135.out 1
       have hns104_0:=NB123_135.out;have hms104_0:=NB135_123.out
       have hs105 : w102.cell? ⟨gb135,2,none⟩ = some (.int .i64 0):=(blk_cell BK135.out 2).trans rfl
       have hfs105:=blk_frozen BK135.out 2
       have hns105_0:=NB123_135.out;have hms105_0:=NB135_123.out
       refine skip_ (w1:=?_) (by rfl) rfl ?_ ?_
       rotate_left
       · go_simp
         rfl
       refine hK.out _ _ ⟨((cell_far (p:=⟨gb135,_,none⟩) (by first|exact Kd.own_blk (Kd.R_ne HO_4.out BK135.out (by decide))|(rw [add_block];exact Kd.own_blk (Kd.R_ne HO_4.out BK135.out (by decide)))|(show (Addr.add _ _).block ≠ _;rw [add_block];exact Kd.own_blk (Kd.R_ne HO_4.out BK135.out (by decide)))|(dsimp only;exact Kd.own_blk (Kd.R_ne HO_4.out BK135.out (by decide)))) _).trans (((cell_far (p:=⟨gb135,_,none⟩) (by first|exact Kd.own_blk (Kd.R_ne HO_4.out BK135.out (by decide))|(rw [add_block];exact Kd.own_blk (Kd.R_ne HO_4.out BK135.out (by decide)))|(show (Addr.add _ _).block ≠ _;rw [add_block];exact Kd.own_blk (Kd.R_ne HO_4.out BK135.out (by decide)))|(dsimp only;exact Kd.own_blk (Kd.R_ne HO_4.out BK135.out (by decide)))) _).trans (((cell_far (p:=⟨gb135,_,none⟩) (by first|exact Kd.own_blk (Kd.R_ne HO_4.out BK135.out (by decide))|(rw [add_block];exact Kd.own_blk (Kd.R_ne HO_4.out BK135.out (by decide)))|(show (Addr.add _ _).block ≠ _;rw [add_block];exact Kd.own_blk (Kd.R_ne HO_4.out BK135.out (by decide)))|(dsimp only;exact Kd.own_blk (Kd.R_ne HO_4.out BK135.out (by decide)))) _).trans (hHeld.1)))))),((cell_far (p:=⟨gb135,_,none⟩) (by first|exact Kd.own_blk (Kd.R_ne HO130.out BK135.out (by decide))|(rw [add_block];exact Kd.own_blk (Kd.R_ne HO130.out BK135.out (by decide)))|(show (Addr.add _ _).block ≠ _;rw [add_block];exact Kd.own_blk (Kd.R_ne HO130.out BK135.out (by decide)))|(dsimp only;exact Kd.own_blk (Kd.R_ne HO130.out BK135.out (by decide)))) _).trans (((cell_far (p:=⟨gb135,_,none⟩) (by first|exact Kd.own_blk (Kd.R_ne HO130.out BK135.out (by decide))|(rw [add_block];exact Kd.own_blk (Kd.R_ne HO130.out BK135.out (by decide)))|(show (Addr.add _ _).block ≠ _;rw [add_block];exact Kd.own_blk (Kd.R_ne HO130.out BK135.out (by decide)))|(dsimp only;exact Kd.own_blk (Kd.R_ne HO130.out BK135.out (by decide)))) _).trans (((cell_far (p:=⟨gb135,_,none⟩) (by first|exact Kd.own_blk (Kd.R_ne HO130.out BK135.out (by decide))|(rw [add_block];exact Kd.own_blk (Kd.R_ne HO130.out BK135.out (by decide)))|(show (Addr.add _ _).block ≠ _;rw [add_block];exact Kd.own_blk (Kd.R_ne HO130.out BK135.out (by decide)))|(dsimp only;exact Kd.own_blk (Kd.R_ne HO130.out BK135.out (by decide)))) _).trans (hHeld.2))))))⟩ (fun hHeld=>?_)
       clear hK K
       refine done_ (done_of HT_.out (by kernel_rfl)) ?_
       try go_wp2
       have n0_ : Aside0 (Kd.R Kd.string 9 (((w102.setCell ⟨gb135,0,none⟩ (.int .i64 t132)).setCell ⟨gb135,1,none⟩ (.int .i64 t134)).setCell ⟨gb135,2,none⟩ (.int .i64 0)) w.heap.size (fun k_=>some k_ ≠ (.slice (some ad133) t128.length co100 : Value).ownBlock) (.slice (some ad127) t124.length co97) t124):=⟨by (with_reducible repeat (first|apply Kd.R_alloc|apply Kd.R_drewN|apply Kd.R_drew));exact Kd.R_mono (Kd.R_far (p:=⟨gb135,2,none⟩) (Kd.R_far (p:=⟨gb135,1,none⟩) (Kd.R_far (p:=⟨gb135,0,none⟩) (Kd.R_types HO_4.out BK135.out (by decide)) (fun _ hk=>hk.2) (.int .i64 t132)) (fun _ hk=>hk.2) (.int .i64 t134)) (fun _ hk=>hk.2) (.int .i64 0)) (fun _ hk=>hk.1)⟩
       have n1_ : Aside0 (Kd.R Kd.string 9 (((w102.setCell ⟨gb135,0,none⟩ (.int .i64 t132)).setCell ⟨gb135,1,none⟩ (.int .i64 t134)).setCell ⟨gb135,2,none⟩ (.int .i64 0)) w.heap.size (fun k_=>some k_ ≠ (.slice (some ad127) t124.length co97 : Value).ownBlock) (.slice (some ad133) t128.length co100) t128):=⟨by (with_reducible repeat (first|apply Kd.R_alloc|apply Kd.R_drewN|apply Kd.R_drew));exact Kd.R_mono (Kd.R_far (p:=⟨gb135,2,none⟩) (Kd.R_far (p:=⟨gb135,1,none⟩) (Kd.R_far (p:=⟨gb135,0,none⟩) (Kd.R_types HO130.out BK135.out (by decide)) (fun _ hk=>hk.2) (.int .i64 t132)) (fun _ hk=>hk.2) (.int .i64 t134)) (fun _ hk=>hk.2) (.int .i64 0)) (fun _ hk=>hk.1)⟩
       have n2_ : Aside0 ((((w102.setCell ⟨gb135,0,none⟩ (.int .i64 t132)).setCell ⟨gb135,1,none⟩ (.int .i64 t134)).setCell ⟨gb135,2,none⟩ (.int .i64 0)).heap[gb123]? = some (.cells #[.int .i64 0,.int .i64 0,.int .i64 0] 26 (0,0))):=⟨by (with_reducible repeat (first|refine zD ?_ _|refine zF ?_|refine zE ?_ _));refine blk_far ?_ NB123_135.out _;(with_reducible repeat (first|refine zD ?_ _|refine zF ?_|refine zE ?_ _));refine blk_far ?_ NB123_135.out _;(with_reducible repeat (first|refine zD ?_ _|refine zF ?_|refine zE ?_ _));refine blk_far ?_ NB123_135.out _;(with_reducible repeat (first|refine zD ?_ _|refine zF ?_|refine zE ?_ _));exact BK123.out⟩
       have n3_ : Aside0 ((((w102.setCell ⟨gb135,0,none⟩ (.int .i64 t132)).setCell ⟨gb135,1,none⟩ (.int .i64 t134)).setCell ⟨gb135,2,none⟩ (.int .i64 0)).heap[gb135]? = some (.cells #[.int .i64 t132,.int .i64 t134,.int .i64 0] 26 (0,0))):=⟨by (with_reducible repeat (first|refine zD ?_ _|refine zF ?_|refine zE ?_ _));refine blk_put (cs:=#[.int .i64 t132,.int .i64 t134,.int .i64 0]) ?_ 2 _ rfl;(with_reducible repeat (first|refine zD ?_ _|refine zF ?_|refine zE ?_ _));refine blk_put (cs:=#[.int .i64 t132,.int .i64 0,.int .i64 0]) ?_ 1 _ rfl;(with_reducible repeat (first|refine zD ?_ _|refine zF ?_|refine zE ?_ _));refine blk_put (cs:=#[.int .i64 0,.int .i64 0,.int .i64 0]) ?_ 0 _ rfl;(with_reducible repeat (first|refine zD ?_ _|refine zF ?_|refine zE ?_ _));exact BK135.out⟩
       have n4_ : Aside0 (Below w.heap.size w (((w102.setCell ⟨gb135,0,none⟩ (.int .i64 t132)).setCell ⟨gb135,1,none⟩ (.int .i64 t134)).setCell ⟨gb135,2,none⟩ (.int .i64 0))):=⟨by repeat (first|(with_reducible first|exact HB.out|apply zJ|apply zG|apply zH|refine zK ?_ GE123.out|refine zK ?_ GE135.out)|exact HB.out)⟩
       (try clear HO_4);(try clear HO130);(try clear BK123);(try clear BK135);(try clear HB)
       generalize (((w102.setCell ⟨gb135,0,none⟩ (.int .i64 t132)).setCell ⟨gb135,1,none⟩ (.int .i64 t134)).setCell ⟨gb135,2,none⟩ (.int .i64 0)) = w106 at n0_ n1_ n2_ n3_ n4_ ⊢
       have HO_4:=n0_;have HO130:=n1_;have BK123:=n2_;have BK135:=n3_;have HB:=n4_;clear n0_ n1_ n2_ n3_ n4_
       have n0_:=zI (Kd.R_drew HO_4.out)
       have n1_:=zI (Kd.R_drew HO130.out)
       have n2_:=zI (zF BK123.out)
       have n3_:=zI (zF BK135.out)
       have n4_:=zI (zH HB.out)
       clear HO_4 HO130 BK123 BK135 HB;have HO_4:=n0_;have HO130:=n1_;have BK123:=n2_;have BK135:=n3_;have HB:=n4_;clear n0_ n1_ n2_ n3_ n4_
       refine start_ (n:=16) (S:=fun w'=>w'.cell? ⟨gb135,0,none⟩ = some (.int .i64 t132) ∧ w'.cell? ⟨gb135,1,none⟩ = some (.int .i64 t134) ∧ w'.cell? ⟨gb135,2,none⟩ = some (.int .i64 0)) (ds:=[]) #[false,false,false,false,false,false,false,false,false,false,false,false,false,false,false,false] (by kernel_rfl) rfl rfl ⟨(blk_cell BK135.out 0).trans rfl,(blk_cell BK135.out 1).trans rfl,(blk_cell BK135.out 2).trans rfl⟩ (fun hHeld=>?_);refine with_tabW spec_rdParse.tab8 spec_rdParse.bits8 (fun HT_ HW_=>?_)
       generalize w106.drew = w107 at HO_4 HO130 BK123 BK135 HB hHeld ⊢
       refine pure_ (i:=1) (N:=some 40) (v:=?_) (a':=?_) #[false,true,false,false,false,false,false,false,false,false,false,false,false,false,false,false] rfl rfl (any_of HT_.out (by kernel_rfl)) (fun _ _ _ h=>h) (Or.inl ⟨by rfl,?_⟩) ?_ ?_
       rotate_left
       · intro w'
         go_simp;with_reducible rfl
       rotate_left
       · simp only [Act.put,zA,zB,zC,i64_w,i32_w]
         rfl
       refine pure_ (i:=2) (N:=some 41) (v:=?_) (a':=?_) #[false,true,true,false,false,false,false,false,false,false,false,false,false,false,false,false] rfl rfl (any_of HT_.out (by kernel_rfl)) (fun _ _ _ h=>h) (Or.inl ⟨by rfl,?_⟩) ?_ ?_
       rotate_left
       · intro w'
         go_simp;with_reducible rfl
       rotate_left
       · simp only [Act.put,zA,zB,zC,i64_w,i32_w]
         rfl
       refine pure_ (i:=3) (N:=some 42) (v:=?_) (a':=?_) #[false,true,true,true,false,false,false,false,false,false,false,false,false,false,false,false] rfl rfl (any_of HT_.out (by kernel_rfl)) (fun _ _ _ h=>h) (Or.inl ⟨by rfl,?_⟩) ?_ ?_
       rotate_left
       · intro w'
         go_simp;with_reducible rfl
       rotate_left
       · simp only [Act.put,zA,zB,zC,i64_w,i32_w]
         rfl
       refine pure_ (i:=4) (N:=some 43) (v:=?_) (a':=?_) #[false,true,true,true,true,false,false,false,false,false,false,false,false,false,false,false] rfl rfl (any_of HT_.out (by kernel_rfl)) (fun _ _ _ h=>h) (Or.inl ⟨by rfl,?_⟩) ?_ ?_
       rotate_left
       · intro w'
         go_simp;with_reducible rfl
       rotate_left
       · simp only [Act.put,zA,zB,zC,i64_w,i32_w]
         rfl
       refine take_ (i:=0) (N:=some 39) (v:=?_) (a':=?_) #[true,true,true,true,true,false,false,false,false,false,false,false,false,false,false,false] rfl rfl (take_ofW HT_.out HW_.out (by kernel_rfl)) (fun _ _ _ h=>h) (Or.inl ⟨by rfl,?_⟩) hHeld ?_ ?_
       rotate_left
       · rintro w' ⟨s0,s1,s2⟩
         go_simp;with_reducible rfl
       rotate_left
       · simp only [Act.put,zA,zB,zC,i64_w,i32_w]
         rfl
       refine take_ (i:=5) (N:=some 44) (v:=?_) (a':=?_) #[true,true,true,true,true,true,false,false,false,false,false,false,false,false,false,false] rfl rfl (take_ofW HT_.out HW_.out (by kernel_rfl)) (fun _ _ _ h=>h) (Or.inl ⟨by rfl,?_⟩) hHeld ?_ ?_
       rotate_left
       · rintro w' ⟨s0,s1,s2⟩
         go_simp;with_reducible rfl
       rotate_left
       · simp only [Act.put,zA,zB,zC,i64_w,i32_w]
         rfl
       refine one_ (i:=6) (N:=some 45) #[true,true,true,true,true,true,true,false,false,false,false,false,false,false,false,false] rfl rfl (one_of HT_.out (by kernel_rfl)) (by decide) (fun K hK=>?_)
       refine goes_ Tryd.func11 (by kernel_rfl) rfl #[.agg #[.int .i64 t132,.int .i64 t134,.int .i64 0]] (by rfl) rfl rfl (by (try simp only [List.map_toArray,List.map_cons,List.map_nil]);first|done|rfl|(simp only [List.length_drop,List.length_take];rfl)) ?_
       with_reducible refine (spec_rdGood.calls t132 t134 0 false _ A78.out).mono ?_
       rintro e w108 ⟨rfl,hb⟩
       refine ⟨_,rfl,?_⟩
       have n0_:=zI (Kd.R_below (by (with_reducible repeat (first|apply Kd.R_alloc|apply Kd.R_drewN|apply Kd.R_drew));exact HO_4.out) hb)
       have n1_:=zI (Kd.R_below (by (with_reducible repeat (first|apply Kd.R_alloc|apply Kd.R_drewN|apply Kd.R_drew));exact HO130.out) hb)
       have n2_:=zI (blk_below (g:=gb123) (o:=.cells #[.int .i64 0,.int .i64 0,.int .i64 0] 26 (0,0)) (by (with_reducible repeat (first|refine zD ?_ _|refine zF ?_|refine zE ?_ _));exact BK123.out) hb)
       have n3_:=zI (blk_below (g:=gb135) (o:=.cells #[.int .i64 t132,.int .i64 t134,.int .i64 0] 26 (0,0)) (by (with_reducible repeat (first|refine zD ?_ _|refine zF ?_|refine zE ?_ _));exact BK135.out) hb)
       have n4_:=zI (below_step (by repeat (first|(with_reducible first|exact HB.out|apply zJ|apply zG|apply zH|refine zK ?_ GE123.out|refine zK ?_ GE135.out)|exact HB.out)) hb)
       clear HO_4 HO130 BK123 BK135 HB;have HO_4:=n0_;have HO130:=n1_;have BK123:=n2_;have BK135:=n3_;have HB:=n4_;clear n0_ n1_ n2_ n3_ n4_;(try clear hb);(try clear hb2);(try clear hk);(try clear hi)
       refine hK.out _ _ ⟨(blk_cell BK135.out 0).trans rfl,(blk_cell BK135.out 1).trans rfl,(blk_cell BK135.out 2).trans rfl⟩ (fun hHeld=>?_)
       clear hK K
       refine norm_ (a':=?_) ?_ ?_
       rotate_left
       · show Act.put _ (some 45) _ = _
         simp only [Act.put,zA,zB,zC,i64_w,i32_w]
         rfl
       refine pure_ (i:=7) (N:=some 46) (v:=?_) (a':=?_) #[true,true,true,true,true,true,true,true,false,false,false,false,false,false,false,false] rfl rfl (any_of HT_.out (by kernel_rfl)) (fun _ _ _ h=>h) (Or.inl ⟨by rfl,?_⟩) ?_ ?_
       rotate_left
       · intro w'
         go_simp;with_reducible rfl
       rotate_left
       · simp only [Act.put,zA,zB,zC,i64_w,i32_w]
         rfl
       refine pure_ (i:=8) (N:=some 47) (v:=?_) (a':=?_) #[true,true,true,true,true,true,true,true,true,false,false,false,false,false,false,false] rfl rfl (any_of HT_.out (by kernel_rfl)) (fun _ _ _ h=>h) (Or.inl ⟨by rfl,?_⟩) ?_ ?_
       rotate_left
       · intro w'
         go_simp;with_reducible rfl
       rotate_left
       · simp only [Act.put,zA,zB,zC,i64_w,i32_w]
         rfl
       refine pure_ (i:=9) (N:=some 48) (v:=undef) (a':=?_) #[true,true,true,true,true,true,true,true,true,true,false,false,false,false,false,false] rfl rfl (any_of HT_.out (by kernel_rfl)) (fun _ _ _ h=>h) (Or.inr ⟨by rfl,rfl⟩) ?_ ?_
       rotate_left
       · simp only [Act.put,zA,zB,zC,i64_w,i32_w]
         rfl
       refine pure_ (i:=10) (N:=some 49) (v:=undef) (a':=?_) #[true,true,true,true,true,true,true,true,true,true,true,false,false,false,false,false] rfl rfl (any_of HT_.out (by kernel_rfl)) (fun _ _ _ h=>h) (Or.inr ⟨by rfl,rfl⟩) ?_ ?_
       rotate_left
       · simp only [Act.put,zA,zB,zC,i64_w,i32_w]
         rfl
       refine pure_ (i:=11) (N:=some 50) (v:=undef) (a':=?_) #[true,true,true,true,true,true,true,true,true,true,true,true,false,false,false,false] rfl rfl (any_of HT_.out (by kernel_rfl)) (fun _ _ _ h=>h) (Or.inr ⟨by rfl,rfl⟩) ?_ ?_
       rotate_left
       · simp only [Act.put,zA,zB,zC,i64_w,i32_w]
         rfl
       refine pure_ (i:=12) (N:=some 51) (v:=undef) (a':=?_) #[true,true,true,true,true,true,true,true,true,true,true,true,true,false,false,false] rfl rfl (any_of HT_.out (by kernel_rfl)) (fun _ _ _ h=>h) (Or.inr ⟨by rfl,rfl⟩) ?_ ?_
       rotate_left
       · simp only [Act.put,zA,zB,zC,i64_w,i32_w]
         rfl
       refine pure_ (i:=13) (N:=some 52) (v:=?_) (a':=?_) #[true,true,true,true,true,true,true,true,true,true,true,true,true,true,false,false] rfl rfl (any_of HT_.out (by kernel_rfl)) (fun _ _ _ h=>h) (Or.inl ⟨by rfl,?_⟩) ?_ ?_
       rotate_left
       · intro w'
         go_simp;with_reducible rfl
       rotate_left
       · simp only [Act.put,zA,zB,zC,i64_w,i32_w]
         rfl
       refine one_ (i:=14) (N:=none) #[true,true,true,true,true,true,true,true,true,true,true,true,true,true,true,false] rfl rfl (one_of HT_.out (by kernel_rfl)) (by decide) (fun K hK=>?_)
       have hs109 : w108.cell? ⟨gb123,0,none⟩ = some (.int .i64 0):=(blk_cell BK123.out 0).trans rfl
       have hfs109:=blk_frozen BK123.out 0
       have hns109_1:=NB135_123.out;have hms109_1:=NB123_135.out
       have hs110 : w108.cell? ⟨gb123,1,none⟩ = some (.int .i64 0):=(blk_cell BK123.out 1).trans rfl
       have hfs110:=blk_frozen BK123.out 1
       have hns110_1:=NB135_123.out;have hms110_1:=NB123_135.out
       have hs111 : w108.cell? ⟨gb123,2,none⟩ = some (.int .i64 0):=(blk_cell BK123.out 2).trans rfl
       have hfs111:=blk_frozen BK123.out 2
       have hns111_1:=NB135_123.out;have hms111_1:=NB123_135.out
       refine skip_ (w1:=?_) (by rfl) rfl ?_ ?_
       rotate_left
       · go_simp
         rfl
       refine hK.out _ _ ⟨((cell_far (p:=⟨gb123,_,none⟩) NB135_123.out _).trans (((cell_far (p:=⟨gb123,_,none⟩) NB135_123.out _).trans (((cell_far (p:=⟨gb123,_,none⟩) NB135_123.out _).trans (hHeld.1)))))),((cell_far (p:=⟨gb123,_,none⟩) NB135_123.out _).trans (((cell_far (p:=⟨gb123,_,none⟩) NB135_123.out _).trans (((cell_far (p:=⟨gb123,_,none⟩) NB135_123.out _).trans (hHeld.2.1)))))),((cell_far (p:=⟨gb123,_,none⟩) NB135_123.out _).trans (((cell_far (p:=⟨gb123,_,none⟩) NB135_123.out _).trans (((cell_far (p:=⟨gb123,_,none⟩) NB135_123.out _).trans (hHeld.2.2))))))⟩ (fun hHeld=>?_)
       clear hK K
       refine pure_ (i:=15) (N:=some 3) (v:=?_) (a':=?_) #[true,true,true,true,true,true,true,true,true,true,true,true,true,true,true,true] rfl rfl (any_of HT_.out (by kernel_rfl)) (fun _ _ _ h=>h) (Or.inl ⟨by rfl,?_⟩) ?_ ?_
       rotate_left
       · intro w'
         go_simp;with_reducible rfl
       rotate_left
       · simp only [Act.put,zA,zB,zC,i64_w,i32_w]
         rfl
       refine done_ (done_of HT_.out (by kernel_rfl)) ?_
       try go_wp2
       refine bodyPost_ret (results_ct rfl _ _ gb123 26 #[.int .i64 t132,.int .i64 t134,.int .i64 0] (0,0) _ rfl (by (with_reducible repeat (first|refine zD ?_ _|refine zF ?_|refine zE ?_ _));refine blk_put (cs:=#[.int .i64 t132,.int .i64 t134,.int .i64 0]) ?_ 2 _ rfl;(with_reducible repeat (first|refine zD ?_ _|refine zF ?_|refine zE ?_ _));refine blk_put (cs:=#[.int .i64 t132,.int .i64 0,.int .i64 0]) ?_ 1 _ rfl;(with_reducible repeat (first|refine zD ?_ _|refine zF ?_|refine zE ?_ _));refine blk_put (cs:=#[.int .i64 0,.int .i64 0,.int .i64 0]) ?_ 0 _ rfl;(with_reducible repeat (first|refine zD ?_ _|refine zF ?_|refine zE ?_ _));exact BK123.out) Tryd.underlying26 rfl (by kernel_rfl)) rfl ?_
       exact ⟨by first|rfl|(simp [errW_none,errW_some] <;> rfl)|(simp [*,errW_none,errW_some] <;> rfl),by repeat (first|(with_reducible first|exact HB.out|apply zJ|apply zG|apply zH|refine zK ?_ GE123.out|refine zK ?_ GE135.out)|exact HB.out)⟩
     subst c79
     have H1 : ((spec_rdText.f kj2 t132 t134 0).bind fun t141=>(some (t132,t134,0,(t141.toList == a0.toList)))) = some (r1,r2,r3,r4):=by rw [if_pos rfl] at H;exact H
     clear H;have H:=H1;clear H1;replace H:=Option.bind_eq_some_iff.mp H
     obtain ⟨t141,A800,H⟩:=H
     replace H : (some (t132,t134,0,(t141.toList == a0.toList))) = some (r1,r2,r3,r4):=H
     have A80:=zI A800;clear A800
     simp only [Option.some.injEq,Prod.mk.injEq] at H
     obtain ⟨rfl,rfl,rfl,rfl⟩:=H
     obtain ⟨Ao81,co81,eo81⟩:=Kd.R_slice HO_4.out
     subst eo81
     have p127 : 0 ≤ (1 : Int):=(by omega)
     have q127 : 1 < (t124.length : Int):=of_decide_eq_true (by first|(with_reducible assumption)|assumption)
     obtain ⟨ad127,e127,hx127_0⟩:=Kd.at_string (Kd.R_reads' HO_4.out).2.2 1 p127 q127
     cases e127
     (try simp only [show (1 : Int).toNat = 1 from rfl,Nat.reduceMul,Nat.reduceEqDiff,Go.Addr.add,↓reduceIte] at hx127_0)
     have qi127 : (1 < t124.length) = True:=eq_true (by omega)
     (try rw [show ((1 : Int)).toNat = 1 from rfl] at hx127_0)
     replace p127:=eq_true p127
     replace q127:=eq_true q127
     try go_wp2_with (first|((with_reducible refine gate_callee (f:=24) rfl ?_);refine goesL_ (some 21) rfl rfl Tryd.func24 (by kernel_rfl) rfl #[.string (rdOf ByteArray.empty t124 1),.int .u8 47] rfl (by (try simp only [List.map_toArray,List.map_cons,List.map_nil]);first|done|rfl|(simp only [List.length_drop,List.length_take];rfl)) ?_;(with_reducible refine (spec_l1Split.calls kj2 (rdOf ByteArray.empty t124 1) 47 t128 _ A11.out).mono ?_);rintro e w82 ⟨v129,rfl,ho0,hb⟩;refine ⟨_,rfl,?_⟩;have n0_:=zI (Kd.R_elder' (by (with_reducible repeat (first|apply Kd.R_alloc|apply Kd.R_drewN|apply Kd.R_drew));exact HO_4.out) (Kd.R_base ho0) hb);have n1_:=zI (Kd.R_lower (Kd.R_new' ho0 (Kd.R_lt (by (with_reducible repeat (first|apply Kd.R_alloc|apply Kd.R_drewN|apply Kd.R_drew));exact HO_4.out))) (below_size (by repeat (first|(with_reducible first|exact HB.out|apply zJ|apply zG|apply zH|refine zK ?_ GE123.out)|exact HB.out))));have n2_:=zI (blk_below (g:=gb123) (o:=.cells #[.int .i64 0,.int .i64 0,.int .i64 0] 26 (0,0)) (by (with_reducible repeat (first|refine zD ?_ _|refine zF ?_|refine zE ?_ _));exact BK123.out) hb);have n3_:=zI (below_step (by repeat (first|(with_reducible first|exact HB.out|apply zJ|apply zG|apply zH|refine zK ?_ GE123.out)|exact HB.out)) hb);clear HO_4;clear BK123;clear HB;have HO_4:=n0_;have HO130:=n1_;have BK123:=n2_;have HB:=n3_;clear n0_ n1_ n2_ n3_;(try clear hb);(try clear hb2);(try clear hk);(try clear hi);(try clear ho0)))
     have n0_:=zI (Kd.R_drew HO_4.out)
     have n1_:=zI (Kd.R_drew HO130.out)
     have n2_:=zI (zF BK123.out)
     have n3_:=zI (zH HB.out)
     clear HO_4 HO130 BK123 HB;have HO_4:=n0_;have HO130:=n1_;have BK123:=n2_;have HB:=n3_;clear n0_ n1_ n2_ n3_
     have p131 : 0 ≤ (0 : Int):=(by omega)
     have q131 : 0 < (t124.length : Int):=of_decide_eq_true (by first|(with_reducible assumption)|assumption)
     obtain ⟨ad131,e131,hx131_0⟩:=Kd.at_string (Kd.R_reads' HO_4.out).2.2 0 p131 q131
     obtain rfl : ad127 = ad131:=(by injection e131)
     have qi131 : (0 < t124.length) = True:=eq_true (by omega)
     (try rw [show ((0 : Int)).toNat = 0 from rfl] at hx131_0);(try rw [Addr.add_zero'] at hx131_0)
     replace p131:=eq_true p131
     replace q131:=eq_true q131
     obtain ⟨Ao84,co84,eo84⟩:=Kd.R_slice HO130.out
     (first|subst eo84|(injection eo84 with f1_ f2_ f3_;have f4_:=f1_.symm;have f5_:=f3_.symm;clear f1_ f2_ f3_;subst f4_;subst f5_))
     have p133 : 0 ≤ (0 : Int):=(by omega)
     have q133 : 0 < (t128.length : Int):=of_decide_eq_true (by first|(with_reducible assumption)|assumption)
     obtain ⟨ad133,e133,hx133_0⟩:=Kd.at_string (Kd.R_reads' HO130.out).2.2 0 p133 q133
     cases e133
     have qi133 : (0 < t128.length) = True:=eq_true (by omega)
     (try rw [show ((0 : Int)).toNat = 0 from rfl] at hx133_0);(try rw [Addr.add_zero'] at hx133_0)
     replace p133:=eq_true p133
     replace q133:=eq_true q133
     refine start_ (n:=11) (S:=fun w'=>w'.cell? ad127 = some (.string (rdOf ByteArray.empty t124 0)) ∧ w'.cell? ad133 = some (.string (rdOf ByteArray.empty t128 0))) (ds:=[]) #[false,false,false,false,false,false,false,false,false,false,false] (by kernel_rfl) rfl rfl ⟨hx131_0,hx133_0⟩ (fun hHeld=>?_);refine with_tabW spec_rdParse.tab5 spec_rdParse.bits5 (fun HT_ HW_=>?_)
     generalize w82.drew = w83 at HO_4 HO130 BK123 HB hx131_0 hx133_0 hHeld ⊢
     refine pure_ (i:=0) (N:=some 22) (v:=?_) (a':=?_) #[true,false,false,false,false,false,false,false,false,false,false] rfl rfl (any_of HT_.out (by kernel_rfl)) (fun _ _ _ h=>h) (Or.inl ⟨by rfl,?_⟩) ?_ ?_
     rotate_left
     · intro w'
       go_simp;with_reducible rfl
     rotate_left
     · simp only [Act.put,zA,zB,zC,i64_w,i32_w]
       rfl
     refine pure_ (i:=1) (N:=some 23) (v:=?_) (a':=?_) #[true,true,false,false,false,false,false,false,false,false,false] rfl rfl (any_of HT_.out (by kernel_rfl)) (fun _ _ _ h=>h) (Or.inl ⟨by rfl,?_⟩) ?_ ?_
     rotate_left
     · intro w'
       go_simp;with_reducible rfl
     rotate_left
     · simp only [Act.put,zA,zB,zC,i64_w,i32_w]
       rfl
     refine pure_ (i:=4) (N:=some 26) (v:=?_) (a':=?_) #[true,true,false,false,true,false,false,false,false,false,false] rfl rfl (any_of HT_.out (by kernel_rfl)) (fun _ _ _ h=>h) (Or.inl ⟨by rfl,?_⟩) ?_ ?_
     rotate_left
     · intro w'
       go_simp;with_reducible rfl
     rotate_left
     · simp only [Act.put,zA,zB,zC,i64_w,i32_w]
       rfl
     refine pure_ (i:=5) (N:=some 27) (v:=?_) (a':=?_) #[true,true,false,false,true,true,false,false,false,false,false] rfl rfl (any_of HT_.out (by kernel_rfl)) (fun _ _ _ h=>h) (Or.inl ⟨by rfl,?_⟩) ?_ ?_
     rotate_left
     · intro w'
       go_simp;with_reducible rfl
     rotate_left
     · simp only [Act.put,zA,zB,zC,i64_w,i32_w]
       rfl
     refine take_ (i:=2) (N:=some 24) (v:=?_) (a':=?_) #[true,true,true,false,true,true,false,false,false,false,false] rfl rfl (take_ofW HT_.out HW_.out (by kernel_rfl)) (fun _ _ _ h=>h) (Or.inl ⟨by rfl,?_⟩) hHeld ?_ ?_
     rotate_left
     · rintro w' ⟨s0,s1⟩
       go_simp;with_reducible rfl
     rotate_left
     · simp only [Act.put,zA,zB,zC,i64_w,i32_w]
       rfl
     refine take_ (i:=6) (N:=some 28) (v:=?_) (a':=?_) #[true,true,true,false,true,true,true,false,false,false,false] rfl rfl (take_ofW HT_.out HW_.out (by kernel_rfl)) (fun _ _ _ h=>h) (Or.inl ⟨by rfl,?_⟩) hHeld ?_ ?_
     rotate_left
     · rintro w' ⟨s0,s1⟩
       go_simp;with_reducible rfl
     rotate_left
     · simp only [Act.put,zA,zB,zC,i64_w,i32_w]
       rfl
     refine join_ (σ:=Nat) 1 #[true,true,true,true,true,true,true,true,true,true,false] (fun s_=>[(25,.int .i64 t132),(29,.int .i64 t134),(6,.pointer (some ⟨s_,0,none⟩)),(30,.agg #[.int .i64 t132,.int .i64 t134,.int .i64 0])]) (fun s_ w'=>(w'.cell? ad127 = some (.string (rdOf ByteArray.empty t124 0)) ∧ w'.cell? ad133 = some (.string (rdOf ByteArray.empty t128 0))) ∧ (Kd.R Kd.string 9 w' w.heap.size (fun k_=>some k_ ≠ (.slice (some ad127) t124.length co81 : Value).ownBlock) (.slice (some ad133) t128.length co84) t128) ∧ (Kd.R Kd.string 9 w' w.heap.size (fun k_=>some k_ ≠ (.slice (some ad133) t128.length co84 : Value).ownBlock) (.slice (some ad127) t124.length co81) t124) ∧ (w'.heap[gb123]? = some (.cells #[.int .i64 0,.int .i64 0,.int .i64 0] 26 (0,0))) ∧ (w'.heap[s_]? = some (.cells #[.int .i64 0,.int .i64 0,.int .i64 0] 26 (0,0))) ∧ (w.heap.size ≤ s_) ∧ (w.heap.size ≤ s_) ∧ (gb123 ≠ s_) ∧ (s_ ≠ gb123) ∧ (Below w.heap.size w w')) ?_ ?_
     rotate_left
     · intro hCont
       refine two_ (i:=3) (j:=9) (Ni:=some 25) (Nj:=some 6) #[true,true,true,true,true,true,true,false,false,false,false] #[true,true,true,false,true,true,true,false,false,true,false] rfl rfl rfl rfl (two_of HT_.out (by kernel_rfl)) (by decide) (by decide) (fun K hK=>?_) (fun K hK=>?_)
       rotate_left
       · skip
         refine box_step ?hg (N:=6) ?hd (cs:=#[.int .i64 0,.int .i64 0,.int .i64 0]) (t:=26) ?hr ?_;(case hd=>rfl);(case hg=>rfl);(case hr=>first|(go_simp;done)|(go_simp;rfl))
         intro gb135 hg w85 hbox hb
         have HS0_:=(hb.cell (World.block_lt_of_cell? _ _ (hHeld.1))).trans (hHeld.1)
         have HS1_:=(hb.cell (World.block_lt_of_cell? _ _ (hHeld.2))).trans (hHeld.2)
         have n0_:=zI (Kd.R_below (by (with_reducible repeat (first|apply Kd.R_alloc|apply Kd.R_drewN|apply Kd.R_drew));exact HO_4.out) hb)
         have n1_:=zI (Kd.R_below (by (with_reducible repeat (first|apply Kd.R_alloc|apply Kd.R_drewN|apply Kd.R_drew));exact HO130.out) hb)
         have n2_:=zI (blk_below (g:=gb123) (o:=.cells #[.int .i64 0,.int .i64 0,.int .i64 0] 26 (0,0)) (by (with_reducible repeat (first|refine zD ?_ _|refine zF ?_|refine zE ?_ _));exact BK123.out) hb)
         have n3_:=zI (below_step (by repeat (first|(with_reducible first|exact HB.out|apply zJ|apply zG|apply zH|refine zK ?_ GE123.out)|exact HB.out)) hb)
         have n4_:=zI (hbox)
         have n5_:=zI ((by rw [hg];exact (below_size (by repeat (first|(with_reducible first|exact HB.out|apply zJ|apply zG|apply zH|refine zK ?_ GE123.out)|exact HB.out))) : w.heap.size ≤ gb135))
         have n6_:=zI ((by rw [hg];exact (below_size (by repeat (first|(with_reducible first|exact HB.out|apply zJ|apply zG|apply zH|refine zK ?_ GE123.out)|exact HB.out))) : w.heap.size ≤ gb135))
         have n7_:=zI ((by rw [hg];exact Nat.ne_of_lt (blk_lt (g:=gb123) (o:=.cells #[.int .i64 0,.int .i64 0,.int .i64 0] 26 (0,0)) (by (with_reducible repeat (first|refine zD ?_ _|refine zF ?_|refine zE ?_ _));exact BK123.out)) : gb123 ≠ gb135))
         have n8_:=zI ((by rw [hg];exact Nat.ne_of_gt (blk_lt (g:=gb123) (o:=.cells #[.int .i64 0,.int .i64 0,.int .i64 0] 26 (0,0)) (by (with_reducible repeat (first|refine zD ?_ _|refine zF ?_|refine zE ?_ _));exact BK123.out)) : gb135 ≠ gb123))
         clear HO_4 HO130 BK123 HB;have HO_4:=n0_;have HO130:=n1_;have BK123:=n2_;have HB:=n3_;have BK135:=n4_;have GW135:=n5_;have GE135:=n6_;have NB123_135:=n7_;have NB135_123:=n8_;clear n0_ n1_ n2_ n3_ n4_ n5_ n6_ n7_ n8_ hb hbox hg
         refine hK.out _ _ ⟨HS0_,HS1_⟩ (fun hHeld=>?_)
         clear hK K
         refine norm_ (a':=?_) ?_ ?_
         rotate_left
         · show Act.put _ (some 6) _ = _
           simp only [Act.put,zA,zB,zC,i64_w,i32_w]
           rfl
         refine one_ (i:=3) (N:=some 25) #[true,true,true,true,true,true,true,false,false,true,false] rfl rfl (one_of HT_.out (by kernel_rfl)) (by decide) (fun K hK=>?_)
         refine goes_ Tryd.func25 (by kernel_rfl) rfl #[.string (rdOf ByteArray.empty t124 0)] (by rfl) rfl rfl (by (try simp only [List.map_toArray,List.map_cons,List.map_nil]);first|done|rfl|(simp only [List.length_drop,List.length_take];rfl)) ?_
         with_reducible refine (spec_l1Read.calls kj2 (rdOf ByteArray.empty t124 0) t132 _ A13.out).mono ?_
         rintro e w' ⟨rfl,⟨nd,rfl⟩⟩
         refine ⟨_,rfl,?_⟩
         refine hK.out _ _ ⟨hHeld.1,hHeld.2⟩ (fun hHeld=>?_)
         clear hK K
         refine norm_ (a':=?_) ?_ ?_
         rotate_left
         · show Act.put _ (some 25) _ = _
           simp only [Act.put,zA,zB,zC,i64_w,i32_w]
           rfl
         refine one_ (i:=7) (N:=some 29) #[true,true,true,true,true,true,true,true,false,true,false] rfl rfl (one_of HT_.out (by kernel_rfl)) (by decide) (fun K hK=>?_)
         refine goes_ Tryd.func25 (by kernel_rfl) rfl #[.string (rdOf ByteArray.empty t128 0)] (by rfl) rfl rfl (by (try simp only [List.map_toArray,List.map_cons,List.map_nil]);first|done|rfl|(simp only [List.length_drop,List.length_take];rfl)) ?_
         with_reducible refine (spec_l1Read.calls kj2 (rdOf ByteArray.empty t128 0) t134 _ A15.out).mono ?_
         rintro e w' ⟨rfl,⟨nd,rfl⟩⟩
         refine ⟨_,rfl,?_⟩
         refine hK.out _ _ ⟨hHeld.1,hHeld.2⟩ (fun hHeld=>?_)
         clear hK K
         refine norm_ (a':=?_) ?_ ?_
         rotate_left
         · show Act.put _ (some 29) _ = _
           simp only [Act.put,zA,zB,zC,i64_w,i32_w]
           rfl
         refine pure_ (i:=8) (N:=some 30) (v:=?_) (a':=?_) #[true,true,true,true,true,true,true,true,true,true,false] rfl rfl (any_of HT_.out (by kernel_rfl)) (fun _ _ _ h=>h) (Or.inl ⟨by rfl,?_⟩) ?_ ?_
         rotate_left
         · intro w'
           go_simp;with_reducible rfl
         rotate_left
         · simp only [Act.put,zA,zB,zC,i64_w,i32_w]
           rfl
         exact norm_ (by simp only [putAll,Act.put,zA,zB,zC]) (hCont (gb135) _ ⟨hHeld,(by (with_reducible repeat (first|apply Kd.R_alloc|apply Kd.R_drewN|apply Kd.R_drew));exact Kd.R_mono HO130.out (fun _ hk=>hk.2)),(by (with_reducible repeat (first|apply Kd.R_alloc|apply Kd.R_drewN|apply Kd.R_drew));exact Kd.R_mono HO_4.out (fun _ hk=>hk.2)),(by (with_reducible repeat (first|refine zD ?_ _|refine zF ?_|refine zE ?_ _));exact BK123.out),(by (with_reducible repeat (first|refine zD ?_ _|refine zF ?_|refine zE ?_ _));exact BK135.out),GW135.out,GE135.out,NB123_135.out,NB135_123.out,(by repeat (first|(with_reducible first|exact HB.out|apply zJ|apply zG|apply zH|refine zK ?_ GE123.out|refine zK ?_ GE135.out)|exact HB.out))⟩)
       skip
       refine goes_ Tryd.func25 (by kernel_rfl) rfl #[.string (rdOf ByteArray.empty t124 0)] (by rfl) rfl rfl (by (try simp only [List.map_toArray,List.map_cons,List.map_nil]);first|done|rfl|(simp only [List.length_drop,List.length_take];rfl)) ?_
       with_reducible refine (spec_l1Read.calls kj2 (rdOf ByteArray.empty t124 0) t132 _ A13.out).mono ?_
       rintro e w' ⟨rfl,⟨nd,rfl⟩⟩
       refine ⟨_,rfl,?_⟩
       refine hK.out _ _ ⟨hHeld.1,hHeld.2⟩ (fun hHeld=>?_)
       clear hK K
       refine norm_ (a':=?_) ?_ ?_
       rotate_left
       · show Act.put _ (some 25) _ = _
         simp only [Act.put,zA,zB,zC,i64_w,i32_w]
         rfl
       refine two_ (i:=7) (j:=9) (Ni:=some 29) (Nj:=some 6) #[true,true,true,true,true,true,true,true,false,false,false] #[true,true,true,true,true,true,true,false,false,true,false] rfl rfl rfl rfl (two_of HT_.out (by kernel_rfl)) (by decide) (by decide) (fun K hK=>?_) (fun K hK=>?_)
       · skip
         refine goes_ Tryd.func25 (by kernel_rfl) rfl #[.string (rdOf ByteArray.empty t128 0)] (by rfl) rfl rfl (by (try simp only [List.map_toArray,List.map_cons,List.map_nil]);first|done|rfl|(simp only [List.length_drop,List.length_take];rfl)) ?_
         with_reducible refine (spec_l1Read.calls kj2 (rdOf ByteArray.empty t128 0) t134 _ A15.out).mono ?_
         rintro e w' ⟨rfl,⟨nd,rfl⟩⟩
         refine ⟨_,rfl,?_⟩
         refine hK.out _ _ ⟨hHeld.1,hHeld.2⟩ (fun hHeld=>?_)
         clear hK K
         refine norm_ (a':=?_) ?_ ?_
         rotate_left
         · show Act.put _ (some 29) _ = _
           simp only [Act.put,zA,zB,zC,i64_w,i32_w]
           rfl
         refine pure_ (i:=8) (N:=some 30) (v:=?_) (a':=?_) #[true,true,true,true,true,true,true,true,true,false,false] rfl rfl (any_of HT_.out (by kernel_rfl)) (fun _ _ _ h=>h) (Or.inl ⟨by rfl,?_⟩) ?_ ?_
         rotate_left
         · intro w'
           go_simp;with_reducible rfl
         rotate_left
         · simp only [Act.put,zA,zB,zC,i64_w,i32_w]
           rfl
         refine one_ (i:=9) (N:=some 6) #[true,true,true,true,true,true,true,true,true,true,false] rfl rfl (one_of HT_.out (by kernel_rfl)) (by decide) (fun K hK=>?_)
         refine box_step ?hg (N:=6) ?hd (cs:=#[.int .i64 0,.int .i64 0,.int .i64 0]) (t:=26) ?hr ?_;(case hd=>rfl);(case hg=>rfl);(case hr=>first|(go_simp;done)|(go_simp;rfl))
         intro gb135 hg w85 hbox hb
         have HS0_:=(hb.cell (World.block_lt_of_cell? _ _ (hHeld.1))).trans (hHeld.1)
         have HS1_:=(hb.cell (World.block_lt_of_cell? _ _ (hHeld.2))).trans (hHeld.2)
         have n0_:=zI (Kd.R_below (by (with_reducible repeat (first|apply Kd.R_alloc|apply Kd.R_drewN|apply Kd.R_drew));exact HO_4.out) hb)
         have n1_:=zI (Kd.R_below (by (with_reducible repeat (first|apply Kd.R_alloc|apply Kd.R_drewN|apply Kd.R_drew));exact HO130.out) hb)
         have n2_:=zI (blk_below (g:=gb123) (o:=.cells #[.int .i64 0,.int .i64 0,.int .i64 0] 26 (0,0)) (by (with_reducible repeat (first|refine zD ?_ _|refine zF ?_|refine zE ?_ _));exact BK123.out) hb)
         have n3_:=zI (below_step (by repeat (first|(with_reducible first|exact HB.out|apply zJ|apply zG|apply zH|refine zK ?_ GE123.out)|exact HB.out)) hb)
         have n4_:=zI (hbox)
         have n5_:=zI ((by rw [hg];exact (below_size (by repeat (first|(with_reducible first|exact HB.out|apply zJ|apply zG|apply zH|refine zK ?_ GE123.out)|exact HB.out))) : w.heap.size ≤ gb135))
         have n6_:=zI ((by rw [hg];exact (below_size (by repeat (first|(with_reducible first|exact HB.out|apply zJ|apply zG|apply zH|refine zK ?_ GE123.out)|exact HB.out))) : w.heap.size ≤ gb135))
         have n7_:=zI ((by rw [hg];exact Nat.ne_of_lt (blk_lt (g:=gb123) (o:=.cells #[.int .i64 0,.int .i64 0,.int .i64 0] 26 (0,0)) (by (with_reducible repeat (first|refine zD ?_ _|refine zF ?_|refine zE ?_ _));exact BK123.out)) : gb123 ≠ gb135))
         have n8_:=zI ((by rw [hg];exact Nat.ne_of_gt (blk_lt (g:=gb123) (o:=.cells #[.int .i64 0,.int .i64 0,.int .i64 0] 26 (0,0)) (by (with_reducible repeat (first|refine zD ?_ _|refine zF ?_|refine zE ?_ _));exact BK123.out)) : gb135 ≠ gb123))
         clear HO_4 HO130 BK123 HB;have HO_4:=n0_;have HO130:=n1_;have BK123:=n2_;have HB:=n3_;have BK135:=n4_;have GW135:=n5_;have GE135:=n6_;have NB123_135:=n7_;have NB135_123:=n8_;clear n0_ n1_ n2_ n3_ n4_ n5_ n6_ n7_ n8_ hb hbox hg
         refine hK.out _ _ ⟨HS0_,HS1_⟩ (fun hHeld=>?_)
         clear hK K
         refine norm_ (a':=?_) ?_ ?_
         rotate_left
         · show Act.put _ (some 6) _ = _
           simp only [Act.put,zA,zB,zC,i64_w,i32_w]
           rfl
         exact norm_ (by simp only [putAll,Act.put,zA,zB,zC]) (hCont (gb135) _ ⟨hHeld,(by (with_reducible repeat (first|apply Kd.R_alloc|apply Kd.R_drewN|apply Kd.R_drew));exact Kd.R_mono HO130.out (fun _ hk=>hk.2)),(by (with_reducible repeat (first|apply Kd.R_alloc|apply Kd.R_drewN|apply Kd.R_drew));exact Kd.R_mono HO_4.out (fun _ hk=>hk.2)),(by (with_reducible repeat (first|refine zD ?_ _|refine zF ?_|refine zE ?_ _));exact BK123.out),(by (with_reducible repeat (first|refine zD ?_ _|refine zF ?_|refine zE ?_ _));exact BK135.out),GW135.out,GE135.out,NB123_135.out,NB135_123.out,(by repeat (first|(with_reducible first|exact HB.out|apply zJ|apply zG|apply zH|refine zK ?_ GE123.out|refine zK ?_ GE135.out)|exact HB.out))⟩)
       skip
       refine box_step ?hg (N:=6) ?hd (cs:=#[.int .i64 0,.int .i64 0,.int .i64 0]) (t:=26) ?hr ?_;(case hd=>rfl);(case hg=>rfl);(case hr=>first|(go_simp;done)|(go_simp;rfl))
       intro gb135 hg w85 hbox hb
       have HS0_:=(hb.cell (World.block_lt_of_cell? _ _ (hHeld.1))).trans (hHeld.1)
       have HS1_:=(hb.cell (World.block_lt_of_cell? _ _ (hHeld.2))).trans (hHeld.2)
       have n0_:=zI (Kd.R_below (by (with_reducible repeat (first|apply Kd.R_alloc|apply Kd.R_drewN|apply Kd.R_drew));exact HO_4.out) hb)
       have n1_:=zI (Kd.R_below (by (with_reducible repeat (first|apply Kd.R_alloc|apply Kd.R_drewN|apply Kd.R_drew));exact HO130.out) hb)
       have n2_:=zI (blk_below (g:=gb123) (o:=.cells #[.int .i64 0,.int .i64 0,.int .i64 0] 26 (0,0)) (by (with_reducible repeat (first|refine zD ?_ _|refine zF ?_|refine zE ?_ _));exact BK123.out) hb)
       have n3_:=zI (below_step (by repeat (first|(with_reducible first|exact HB.out|apply zJ|apply zG|apply zH|refine zK ?_ GE123.out)|exact HB.out)) hb)
       have n4_:=zI (hbox)
       have n5_:=zI ((by rw [hg];exact (below_size (by repeat (first|(with_reducible first|exact HB.out|apply zJ|apply zG|apply zH|refine zK ?_ GE123.out)|exact HB.out))) : w.heap.size ≤ gb135))
       have n6_:=zI ((by rw [hg];exact (below_size (by repeat (first|(with_reducible first|exact HB.out|apply zJ|apply zG|apply zH|refine zK ?_ GE123.out)|exact HB.out))) : w.heap.size ≤ gb135))
       have n7_:=zI ((by rw [hg];exact Nat.ne_of_lt (blk_lt (g:=gb123) (o:=.cells #[.int .i64 0,.int .i64 0,.int .i64 0] 26 (0,0)) (by (with_reducible repeat (first|refine zD ?_ _|refine zF ?_|refine zE ?_ _));exact BK123.out)) : gb123 ≠ gb135))
       have n8_:=zI ((by rw [hg];exact Nat.ne_of_gt (blk_lt (g:=gb123) (o:=.cells #[.int .i64 0,.int .i64 0,.int .i64 0] 26 (0,0)) (by (with_reducible repeat (first|refine zD ?_ _|refine zF ?_|refine zE ?_ _));exact BK123.out)) : gb135 ≠ gb123))
       clear HO_4 HO130 BK123 HB;have HO_4:=n0_;have HO130:=n1_;have BK123:=n2_;have HB:=n3_;have BK135:=n4_;have GW135:=n5_;have GE135:=n6_;have NB123_135:=n7_;have NB135_123:=n8_;clear n0_ n1_ n2_ n3_ n4_ n5_ n6_ n7_ n8_ hb hbox hg
       refine hK.out _ _ ⟨HS0_,HS1_⟩ (fun hHeld=>?_)
       clear hK K
       refine norm_ (a':=?_) ?_ ?_
       rotate_left
       · show Act.put _ (some 6) _ = _
         simp only [Act.put,zA,zB,zC,i64_w,i32_w]
         rfl
       refine one_ (i:=7) (N:=some 29) #[true,true,true,true,true,true,true,true,false,true,false] rfl rfl (one_of HT_.out (by kernel_rfl)) (by decide) (fun K hK=>?_)
       refine goes_ Tryd.func25 (by kernel_rfl) rfl #[.string (rdOf ByteArray.empty t128 0)] (by rfl) rfl rfl (by (try simp only [List.map_toArray,List.map_cons,List.map_nil]);first|done|rfl|(simp only [List.length_drop,List.length_take];rfl)) ?_
       with_reducible refine (spec_l1Read.calls kj2 (rdOf ByteArray.empty t128 0) t134 _ A15.out).mono ?_
       rintro e w' ⟨rfl,⟨nd,rfl⟩⟩
       refine ⟨_,rfl,?_⟩
       refine hK.out _ _ ⟨hHeld.1,hHeld.2⟩ (fun hHeld=>?_)
       clear hK K
       refine norm_ (a':=?_) ?_ ?_
       rotate_left
       · show Act.put _ (some 29) _ = _
         simp only [Act.put,zA,zB,zC,i64_w,i32_w]
         rfl
       refine pure_ (i:=8) (N:=some 30) (v:=?_) (a':=?_) #[true,true,true,true,true,true,true,true,true,true,false] rfl rfl (any_of HT_.out (by kernel_rfl)) (fun _ _ _ h=>h) (Or.inl ⟨by rfl,?_⟩) ?_ ?_
       rotate_left
       · intro w'
         go_simp;with_reducible rfl
       rotate_left
       · simp only [Act.put,zA,zB,zC,i64_w,i32_w]
         rfl
       exact norm_ (by simp only [putAll,Act.put,zA,zB,zC]) (hCont (gb135) _ ⟨hHeld,(by (with_reducible repeat (first|apply Kd.R_alloc|apply Kd.R_drewN|apply Kd.R_drew));exact Kd.R_mono HO130.out (fun _ hk=>hk.2)),(by (with_reducible repeat (first|apply Kd.R_alloc|apply Kd.R_drewN|apply Kd.R_drew));exact Kd.R_mono HO_4.out (fun _ hk=>hk.2)),(by (with_reducible repeat (first|refine zD ?_ _|refine zF ?_|refine zE ?_ _));exact BK123.out),(by (with_reducible repeat (first|refine zD ?_ _|refine zF ?_|refine zE ?_ _));exact BK135.out),GW135.out,GE135.out,NB123_135.out,NB135_123.out,(by repeat (first|(with_reducible first|exact HB.out|apply zJ|apply zG|apply zH|refine zK ?_ GE123.out|refine zK ?_ GE135.out)|exact HB.out))⟩)
     rintro gb135 w86 ⟨hS_,h0_,h1_,h2_,h3_,h4_,h5_,h6_,h7_,h8_⟩
     have n0_ : Aside0 (Kd.R Kd.string 9 w86 w.heap.size (fun k_=>some k_ ≠ (.slice (some ad127) t124.length co81 : Value).ownBlock) (.slice (some ad133) t128.length co84) t128):=⟨h0_⟩
     have n1_ : Aside0 (Kd.R Kd.string 9 w86 w.heap.size (fun k_=>some k_ ≠ (.slice (some ad133) t128.length co84 : Value).ownBlock) (.slice (some ad127) t124.length co81) t124):=⟨h1_⟩
     have n2_ : Aside0 (w86.heap[gb123]? = some (.cells #[.int .i64 0,.int .i64 0,.int .i64 0] 26 (0,0))):=⟨h2_⟩
     have n3_ : Aside0 (w86.heap[gb135]? = some (.cells #[.int .i64 0,.int .i64 0,.int .i64 0] 26 (0,0))):=⟨h3_⟩
     have n4_ : Aside0 (w.heap.size ≤ gb135):=⟨h4_⟩
     have n5_ : Aside0 (w.heap.size ≤ gb135):=⟨h5_⟩
     have n6_ : Aside0 (gb123 ≠ gb135):=⟨h6_⟩
     have n7_ : Aside0 (gb135 ≠ gb123):=⟨h7_⟩
     have n8_ : Aside0 (Below w.heap.size w w86):=⟨h8_⟩
     clear HO_4 HO130 BK123 HB h0_ h1_ h2_ h3_ h4_ h5_ h6_ h7_ h8_;have HO130:=n0_;have HO_4:=n1_;have BK123:=n2_;have BK135:=n3_;have GW135:=n4_;have GE135:=n5_;have NB123_135:=n6_;have NB135_123:=n7_;have HB:=n8_;clear n0_ n1_ n2_ n3_ n4_ n5_ n6_ n7_ n8_
     have hHeld : w86.cell? ad127 = some (.string (rdOf ByteArray.empty t124 0)) ∧ w86.cell? ad133 = some (.string (rdOf ByteArray.empty t128 0)):=hS_
     refine norm_ (a':=?_) ?_ ?_
     rotate_left
     · simp only [putAll,Act.put,zA,zB,zC]
       rfl
     refine one_ (i:=10) (N:=none) #[true,true,true,true,true,true,true,true,true,true,true] rfl rfl (one_of HT_.out (by kernel_rfl)) (by decide) (fun K hK=>?_)
     have hs87 : w86.cell? ⟨gb135,0,none⟩ = some (.int .i64 0):=(blk_cell BK135.out 0).trans rfl
     have hfs87:=blk_frozen BK135.out 0
     have hns87_0:=NB123_135.out;have hms87_0:=NB135_123.out
     have hs88 : w86.cell? ⟨gb135,1,none⟩ = some (.int .i64 0):=(blk_cell BK135.out 1).trans rfl
     have hfs88:=blk_frozen BK135.out 1
     have hns88_0:=NB123_135.out;have hms88_0:=NB135_123.out
     have hs89 : w86.cell? ⟨gb135,2,none⟩ = some (.int .i64 0):=(blk_cell BK135.out 2).trans rfl
     have hfs89:=blk_frozen BK135.out 2
     have hns89_0:=NB123_135.out;have hms89_0:=NB135_123.out
     refine skip_ (w1:=?_) (by rfl) rfl ?_ ?_
     rotate_left
     · go_simp
       rfl
     refine hK.out _ _ ⟨((cell_far (p:=⟨gb135,_,none⟩) (by first|exact Kd.own_blk (Kd.R_ne HO_4.out BK135.out (by decide))|(rw [add_block];exact Kd.own_blk (Kd.R_ne HO_4.out BK135.out (by decide)))|(show (Addr.add _ _).block ≠ _;rw [add_block];exact Kd.own_blk (Kd.R_ne HO_4.out BK135.out (by decide)))|(dsimp only;exact Kd.own_blk (Kd.R_ne HO_4.out BK135.out (by decide)))) _).trans (((cell_far (p:=⟨gb135,_,none⟩) (by first|exact Kd.own_blk (Kd.R_ne HO_4.out BK135.out (by decide))|(rw [add_block];exact Kd.own_blk (Kd.R_ne HO_4.out BK135.out (by decide)))|(show (Addr.add _ _).block ≠ _;rw [add_block];exact Kd.own_blk (Kd.R_ne HO_4.out BK135.out (by decide)))|(dsimp only;exact Kd.own_blk (Kd.R_ne HO_4.out BK135.out (by decide)))) _).trans (((cell_far (p:=⟨gb135,_,none⟩) (by first|exact Kd.own_blk (Kd.R_ne HO_4.out BK135.out (by decide))|(rw [add_block];exact Kd.own_blk (Kd.R_ne HO_4.out BK135.out (by decide)))|(show (Addr.add _ _).block ≠ _;rw [add_block];exact Kd.own_blk (Kd.R_ne HO_4.out BK135.out (by decide)))|(dsimp only;exact Kd.own_blk (Kd.R_ne HO_4.out BK135.out (by decide)))) _).trans (hHeld.1)))))),((cell_far (p:=⟨gb135,_,none⟩) (by first|exact Kd.own_blk (Kd.R_ne HO130.out BK135.out (by decide))|(rw [add_block];exact Kd.own_blk (Kd.R_ne HO130.out BK135.out (by decide)))|(show (Addr.add _ _).block ≠ _;rw [add_block];exact Kd.own_blk (Kd.R_ne HO130.out BK135.out (by decide)))|(dsimp only;exact Kd.own_blk (Kd.R_ne HO130.out BK135.out (by decide)))) _).trans (((cell_far (p:=⟨gb135,_,none⟩) (by first|exact Kd.own_blk (Kd.R_ne HO130.out BK135.out (by decide))|(rw [add_block];exact Kd.own_blk (Kd.R_ne HO130.out BK135.out (by decide)))|(show (Addr.add _ _).block ≠ _;rw [add_block];exact Kd.own_blk (Kd.R_ne HO130.out BK135.out (by decide)))|(dsimp only;exact Kd.own_blk (Kd.R_ne HO130.out BK135.out (by decide)))) _).trans (((cell_far (p:=⟨gb135,_,none⟩) (by first|exact Kd.own_blk (Kd.R_ne HO130.out BK135.out (by decide))|(rw [add_block];exact Kd.own_blk (Kd.R_ne HO130.out BK135.out (by decide)))|(show (Addr.add _ _).block ≠ _;rw [add_block];exact Kd.own_blk (Kd.R_ne HO130.out BK135.out (by decide)))|(dsimp only;exact Kd.own_blk (Kd.R_ne HO130.out BK135.out (by decide)))) _).trans (hHeld.2))))))⟩ (fun hHeld=>?_)
     clear hK K
     refine done_ (done_of HT_.out (by kernel_rfl)) ?_
     try go_wp2
     have n0_ : Aside0 (Kd.R Kd.string 9 (((w86.setCell ⟨gb135,0,none⟩ (.int .i64 t132)).setCell ⟨gb135,1,none⟩ (.int .i64 t134)).setCell ⟨gb135,2,none⟩ (.int .i64 0)) w.heap.size (fun k_=>some k_ ≠ (.slice (some ad133) t128.length co84 : Value).ownBlock) (.slice (some ad127) t124.length co81) t124):=⟨by (with_reducible repeat (first|apply Kd.R_alloc|apply Kd.R_drewN|apply Kd.R_drew));exact Kd.R_mono (Kd.R_far (p:=⟨gb135,2,none⟩) (Kd.R_far (p:=⟨gb135,1,none⟩) (Kd.R_far (p:=⟨gb135,0,none⟩) (Kd.R_types HO_4.out BK135.out (by decide)) (fun _ hk=>hk.2) (.int .i64 t132)) (fun _ hk=>hk.2) (.int .i64 t134)) (fun _ hk=>hk.2) (.int .i64 0)) (fun _ hk=>hk.1)⟩
     have n1_ : Aside0 (Kd.R Kd.string 9 (((w86.setCell ⟨gb135,0,none⟩ (.int .i64 t132)).setCell ⟨gb135,1,none⟩ (.int .i64 t134)).setCell ⟨gb135,2,none⟩ (.int .i64 0)) w.heap.size (fun k_=>some k_ ≠ (.slice (some ad127) t124.length co81 : Value).ownBlock) (.slice (some ad133) t128.length co84) t128):=⟨by (with_reducible repeat (first|apply Kd.R_alloc|apply Kd.R_drewN|apply Kd.R_drew));exact Kd.R_mono (Kd.R_far (p:=⟨gb135,2,none⟩) (Kd.R_far (p:=⟨gb135,1,none⟩) (Kd.R_far (p:=⟨gb135,0,none⟩) (Kd.R_types HO130.out BK135.out (by decide)) (fun _ hk=>hk.2) (.int .i64 t132)) (fun _ hk=>hk.2) (.int .i64 t134)) (fun _ hk=>hk.2) (.int .i64 0)) (fun _ hk=>hk.1)⟩
     have n2_ : Aside0 ((((w86.setCell ⟨gb135,0,none⟩ (.int .i64 t132)).setCell ⟨gb135,1,none⟩ (.int .i64 t134)).setCell ⟨gb135,2,none⟩ (.int .i64 0)).heap[gb123]? = some (.cells #[.int .i64 0,.int .i64 0,.int .i64 0] 26 (0,0))):=⟨by (with_reducible repeat (first|refine zD ?_ _|refine zF ?_|refine zE ?_ _));refine blk_far ?_ NB123_135.out _;(with_reducible repeat (first|refine zD ?_ _|refine zF ?_|refine zE ?_ _));refine blk_far ?_ NB123_135.out _;(with_reducible repeat (first|refine zD ?_ _|refine zF ?_|refine zE ?_ _));refine blk_far ?_ NB123_135.out _;(with_reducible repeat (first|refine zD ?_ _|refine zF ?_|refine zE ?_ _));exact BK123.out⟩
     have n3_ : Aside0 ((((w86.setCell ⟨gb135,0,none⟩ (.int .i64 t132)).setCell ⟨gb135,1,none⟩ (.int .i64 t134)).setCell ⟨gb135,2,none⟩ (.int .i64 0)).heap[gb135]? = some (.cells #[.int .i64 t132,.int .i64 t134,.int .i64 0] 26 (0,0))):=⟨by (with_reducible repeat (first|refine zD ?_ _|refine zF ?_|refine zE ?_ _));refine blk_put (cs:=#[.int .i64 t132,.int .i64 t134,.int .i64 0]) ?_ 2 _ rfl;(with_reducible repeat (first|refine zD ?_ _|refine zF ?_|refine zE ?_ _));refine blk_put (cs:=#[.int .i64 t132,.int .i64 0,.int .i64 0]) ?_ 1 _ rfl;(with_reducible repeat (first|refine zD ?_ _|refine zF ?_|refine zE ?_ _));refine blk_put (cs:=#[.int .i64 0,.int .i64 0,.int .i64 0]) ?_ 0 _ rfl;(with_reducible repeat (first|refine zD ?_ _|refine zF ?_|refine zE ?_ _));exact BK135.out⟩
     have n4_ : Aside0 (Below w.heap.size w (((w86.setCell ⟨gb135,0,none⟩ (.int .i64 t132)).setCell ⟨gb135,1,none⟩ (.int .i64 t134)).setCell ⟨gb135,2,none⟩ (.int .i64 0))):=⟨by repeat (first|(with_reducible first|exact HB.out|apply zJ|apply zG|apply zH|refine zK ?_ GE123.out|refine zK ?_ GE135.out)|exact HB.out)⟩
     (try clear HO_4);(try clear HO130);(try clear BK123);(try clear BK135);(try clear HB)
     generalize (((w86.setCell ⟨gb135,0,none⟩ (.int .i64 t132)).setCell ⟨gb135,1,none⟩ (.int .i64 t134)).setCell ⟨gb135,2,none⟩ (.int .i64 0)) = w90 at n0_ n1_ n2_ n3_ n4_ ⊢
     have HO_4:=n0_;have HO130:=n1_;have BK123:=n2_;have BK135:=n3_;have HB:=n4_;clear n0_ n1_ n2_ n3_ n4_
     have n0_:=zI (Kd.R_drew HO_4.out)
     have n1_:=zI (Kd.R_drew HO130.out)
     have n2_:=zI (zF BK123.out)
     have n3_:=zI (zF BK135.out)
     have n4_:=zI (zH HB.out)
     clear HO_4 HO130 BK123 BK135 HB;have HO_4:=n0_;have HO130:=n1_;have BK123:=n2_;have BK135:=n3_;have HB:=n4_;clear n0_ n1_ n2_ n3_ n4_
     refine start_ (n:=16) (S:=fun w'=>w'.cell? ⟨gb135,0,none⟩ = some (.int .i64 t132) ∧ w'.cell? ⟨gb135,1,none⟩ = some (.int .i64 t134) ∧ w'.cell? ⟨gb135,2,none⟩ = some (.int .i64 0)) (ds:=[]) #[false,false,false,false,false,false,false,false,false,false,false,false,false,false,false,false] (by kernel_rfl) rfl rfl ⟨(blk_cell BK135.out 0).trans rfl,(blk_cell BK135.out 1).trans rfl,(blk_cell BK135.out 2).trans rfl⟩ (fun hHeld=>?_);refine with_tabW spec_rdParse.tab8 spec_rdParse.bits8 (fun HT_ HW_=>?_)
     generalize w90.drew = w91 at HO_4 HO130 BK123 BK135 HB hHeld ⊢
     refine pure_ (i:=1) (N:=some 40) (v:=?_) (a':=?_) #[false,true,false,false,false,false,false,false,false,false,false,false,false,false,false,false] rfl rfl (any_of HT_.out (by kernel_rfl)) (fun _ _ _ h=>h) (Or.inl ⟨by rfl,?_⟩) ?_ ?_
     rotate_left
     · intro w'
       go_simp;with_reducible rfl
     rotate_left
     · simp only [Act.put,zA,zB,zC,i64_w,i32_w]
       rfl
     refine pure_ (i:=2) (N:=some 41) (v:=?_) (a':=?_) #[false,true,true,false,false,false,false,false,false,false,false,false,false,false,false,false] rfl rfl (any_of HT_.out (by kernel_rfl)) (fun _ _ _ h=>h) (Or.inl ⟨by rfl,?_⟩) ?_ ?_
     rotate_left
     · intro w'
       go_simp;with_reducible rfl
     rotate_left
     · simp only [Act.put,zA,zB,zC,i64_w,i32_w]
       rfl
     refine pure_ (i:=3) (N:=some 42) (v:=?_) (a':=?_) #[false,true,true,true,false,false,false,false,false,false,false,false,false,false,false,false] rfl rfl (any_of HT_.out (by kernel_rfl)) (fun _ _ _ h=>h) (Or.inl ⟨by rfl,?_⟩) ?_ ?_
     rotate_left
     · intro w'
       go_simp;with_reducible rfl
     rotate_left
     · simp only [Act.put,zA,zB,zC,i64_w,i32_w]
       rfl
     refine pure_ (i:=4) (N:=some 43) (v:=?_) (a':=?_) #[false,true,true,true,true,false,false,false,false,false,false,false,false,false,false,false] rfl rfl (any_of HT_.out (by kernel_rfl)) (fun _ _ _ h=>h) (Or.inl ⟨by rfl,?_⟩) ?_ ?_
     rotate_left
     · intro w'
       go_simp;with_reducible rfl
     rotate_left
     · simp only [Act.put,zA,zB,zC,i64_w,i32_w]
       rfl
     refine take_ (i:=0) (N:=some 39) (v:=?_) (a':=?_) #[true,true,true,true,true,false,false,false,false,false,false,false,false,false,false,false] rfl rfl (take_ofW HT_.out HW_.out (by kernel_rfl)) (fun _ _ _ h=>h) (Or.inl ⟨by rfl,?_⟩) hHeld ?_ ?_
     rotate_left
     · rintro w' ⟨s0,s1,s2⟩
       go_simp;with_reducible rfl
     rotate_left
     · simp only [Act.put,zA,zB,zC,i64_w,i32_w]
       rfl
     refine take_ (i:=5) (N:=some 44) (v:=?_) (a':=?_) #[true,true,true,true,true,true,false,false,false,false,false,false,false,false,false,false] rfl rfl (take_ofW HT_.out HW_.out (by kernel_rfl)) (fun _ _ _ h=>h) (Or.inl ⟨by rfl,?_⟩) hHeld ?_ ?_
     rotate_left
     · rintro w' ⟨s0,s1,s2⟩
       go_simp;with_reducible rfl
     rotate_left
     · simp only [Act.put,zA,zB,zC,i64_w,i32_w]
       rfl
     refine one_ (i:=6) (N:=some 45) #[true,true,true,true,true,true,true,false,false,false,false,false,false,false,false,false] rfl rfl (one_of HT_.out (by kernel_rfl)) (by decide) (fun K hK=>?_)
     refine goes_ Tryd.func11 (by kernel_rfl) rfl #[.agg #[.int .i64 t132,.int .i64 t134,.int .i64 0]] (by rfl) rfl rfl (by (try simp only [List.map_toArray,List.map_cons,List.map_nil]);first|done|rfl|(simp only [List.length_drop,List.length_take];rfl)) ?_
     with_reducible refine (spec_rdGood.calls t132 t134 0 true _ A78.out).mono ?_
     rintro e w92 ⟨rfl,hb⟩
     refine ⟨_,rfl,?_⟩
     have n0_:=zI (Kd.R_below (by (with_reducible repeat (first|apply Kd.R_alloc|apply Kd.R_drewN|apply Kd.R_drew));exact HO_4.out) hb)
     have n1_:=zI (Kd.R_below (by (with_reducible repeat (first|apply Kd.R_alloc|apply Kd.R_drewN|apply Kd.R_drew));exact HO130.out) hb)
     have n2_:=zI (blk_below (g:=gb123) (o:=.cells #[.int .i64 0,.int .i64 0,.int .i64 0] 26 (0,0)) (by (with_reducible repeat (first|refine zD ?_ _|refine zF ?_|refine zE ?_ _));exact BK123.out) hb)
     have n3_:=zI (blk_below (g:=gb135) (o:=.cells #[.int .i64 t132,.int .i64 t134,.int .i64 0] 26 (0,0)) (by (with_reducible repeat (first|refine zD ?_ _|refine zF ?_|refine zE ?_ _));exact BK135.out) hb)
     have n4_:=zI (below_step (by repeat (first|(with_reducible first|exact HB.out|apply zJ|apply zG|apply zH|refine zK ?_ GE123.out|refine zK ?_ GE135.out)|exact HB.out)) hb)
     clear HO_4 HO130 BK123 BK135 HB;have HO_4:=n0_;have HO130:=n1_;have BK123:=n2_;have BK135:=n3_;have HB:=n4_;clear n0_ n1_ n2_ n3_ n4_;(try clear hb);(try clear hb2);(try clear hk);(try clear hi)
     refine hK.out _ _ ⟨(blk_cell BK135.out 0).trans rfl,(blk_cell BK135.out 1).trans rfl,(blk_cell BK135.out 2).trans rfl⟩ (fun hHeld=>?_)
     clear hK K
     refine norm_ (a':=?_) ?_ ?_
     rotate_left
     · show Act.put _ (some 45) _ = _
       simp only [Act.put,zA,zB,zC,i64_w,i32_w]
       rfl
     refine pure_ (i:=7) (N:=some 46) (v:=?_) (a':=?_) #[true,true,true,true,true,true,true,true,false,false,false,false,false,false,false,false] rfl rfl (any_of HT_.out (by kernel_rfl)) (fun _ _ _ h=>h) (Or.inl ⟨by rfl,?_⟩) ?_ ?_
     rotate_left
     · intro w'
       go_simp;with_reducible rfl
     rotate_left
     · simp only [Act.put,zA,zB,zC,i64_w,i32_w]
       rfl
     refine pure_ (i:=8) (N:=some 47) (v:=?_) (a':=?_) #[true,true,true,true,true,true,true,true,true,false,false,false,false,false,false,false] rfl rfl (any_of HT_.out (by kernel_rfl)) (fun _ _ _ h=>h) (Or.inl ⟨by rfl,?_⟩) ?_ ?_
     rotate_left
     · intro w'
       go_simp;with_reducible rfl
     rotate_left
     · simp only [Act.put,zA,zB,zC,i64_w,i32_w]
       rfl
     refine pure_ (i:=11) (N:=some 50) (v:=?_) (a':=?_) #[true,true,true,true,true,true,true,true,true,false,false,true,false,false,false,false] rfl rfl (any_of HT_.out (by kernel_rfl)) (fun _ _ _ h=>h) (Or.inl ⟨by rfl,?_⟩) ?_ ?_
     rotate_left
     · intro w'
       go_simp;with_reducible rfl
     rotate_left
     · simp only [Act.put,zA,zB,zC,i64_w,i32_w]
       rfl
     refine take_ (i:=9) (N:=some 48) (v:=?_) (a':=?_) #[true,true,true,true,true,true,true,true,true,true,false,true,false,false,false,false] rfl rfl (take_ofW HT_.out HW_.out (by kernel_rfl)) (fun _ _ _ h=>h) (Or.inl ⟨by rfl,?_⟩) hHeld ?_ ?_
     rotate_left
     · rintro w' ⟨s0,s1,s2⟩
       go_simp;with_reducible rfl
     rotate_left
     · simp only [Act.put,zA,zB,zC,i64_w,i32_w]
       rfl
     refine one_ (i:=10) (N:=some 49) #[true,true,true,true,true,true,true,true,true,true,true,true,false,false,false,false] rfl rfl (one_of HT_.out (by kernel_rfl)) (by decide) (fun K hK=>?_)
     refine goes_ Tryd.func12 (by kernel_rfl) rfl #[.agg #[.int .i64 t132,.int .i64 t134,.int .i64 0]] (by rfl) rfl rfl (by (try simp only [List.map_toArray,List.map_cons,List.map_nil]);first|done|rfl|(simp only [List.length_drop,List.length_take];rfl)) ?_
     with_reducible refine (spec_rdText.calls kj2 t132 t134 0 t141 _ A80.out).mono ?_
     rintro e w93 ⟨rfl,hb⟩
     refine ⟨_,rfl,?_⟩
     have n0_:=zI (Kd.R_below (by (with_reducible repeat (first|apply Kd.R_alloc|apply Kd.R_drewN|apply Kd.R_drew));exact HO_4.out) hb)
     have n1_:=zI (Kd.R_below (by (with_reducible repeat (first|apply Kd.R_alloc|apply Kd.R_drewN|apply Kd.R_drew));exact HO130.out) hb)
     have n2_:=zI (blk_below (g:=gb123) (o:=.cells #[.int .i64 0,.int .i64 0,.int .i64 0] 26 (0,0)) (by (with_reducible repeat (first|refine zD ?_ _|refine zF ?_|refine zE ?_ _));exact BK123.out) hb)
     have n3_:=zI (blk_below (g:=gb135) (o:=.cells #[.int .i64 t132,.int .i64 t134,.int .i64 0] 26 (0,0)) (by (with_reducible repeat (first|refine zD ?_ _|refine zF ?_|refine zE ?_ _));exact BK135.out) hb)
     have n4_:=zI (below_step (by repeat (first|(with_reducible first|exact HB.out|apply zJ|apply zG|apply zH|refine zK ?_ GE123.out|refine zK ?_ GE135.out)|exact HB.out)) hb)
     clear HO_4 HO130 BK123 BK135 HB;have HO_4:=n0_;have HO130:=n1_;have BK123:=n2_;have BK135:=n3_;have HB:=n4_;clear n0_ n1_ n2_ n3_ n4_;(try clear hb);(try clear hb2);(try clear hk);(try clear hi)
     refine hK.out _ _ ⟨(blk_cell BK135.out 0).trans rfl,(blk_cell BK135.out 1).trans rfl,(blk_cell BK135.out 2).trans rfl⟩ (fun hHeld=>?_)
     clear hK K
     refine norm_ (a':=?_) ?_ ?_
     rotate_left
     · show Act.put _ (some 49) _ = _
       simp only [Act.put,zA,zB,zC,i64_w,i32_w]
       rfl
     refine pure_ (i:=12) (N:=some 51) (v:=?_) (a':=?_) #[true,true,true,true,true,true,true,true,true,true,true,true,true,false,false,false] rfl rfl (any_of HT_.out (by kernel_rfl)) (fun _ _ _ h=>h) (Or.inl ⟨by rfl,?_⟩) ?_ ?_
     rotate_left
     · intro w'
       go_simp;with_reducible rfl
     rotate_left
     · simp only [Act.put,zA,zB,zC,i64_w,i32_w]
       rfl
     refine pure_ (i:=13) (N:=some 52) (v:=?_) (a':=?_) #[true,true,true,true,true,true,true,true,true,true,true,true,true,true,false,false] rfl rfl (any_of HT_.out (by kernel_rfl)) (fun _ _ _ h=>h) (Or.inl ⟨by rfl,?_⟩) ?_ ?_
     rotate_left
     · intro w'
       go_simp;with_reducible rfl
     rotate_left
     · simp only [Act.put,zA,zB,zC,i64_w,i32_w]
       rfl
     refine one_ (i:=14) (N:=none) #[true,true,true,true,true,true,true,true,true,true,true,true,true,true,true,false] rfl rfl (one_of HT_.out (by kernel_rfl)) (by decide) (fun K hK=>?_)
     have hs94 : w93.cell? ⟨gb123,0,none⟩ = some (.int .i64 0):=(blk_cell BK123.out 0).trans rfl
     have hfs94:=blk_frozen BK123.out 0
     have hns94_1:=NB135_123.out;have hms94_1:=NB123_135.out
     have hs95 : w93.cell? ⟨gb123,1,none⟩ = some (.int .i64 0):=(blk_cell BK123.out 1).trans rfl
     have hfs95:=blk_frozen BK123.out 1
     have hns95_1:=NB135_123.out;have hms95_1:=NB123_135.out
     have hs96 : w93.cell? ⟨gb123,2,none⟩ = some (.int .i64 0):=(blk_cell BK123.out 2).trans rfl
     have hfs96:=blk_frozen BK123.out 2
     have hns96_1:=NB135_123.out;have hms96_1:=NB123_135.out
     refine skip_ (w1:=?_) (by rfl) rfl ?_ ?_
     rotate_left
     · go_simp
       rfl
     refine hK.out _ _ ⟨((cell_far (p:=⟨gb123,_,none⟩) NB135_123.out _).trans (((cell_far (p:=⟨gb123,_,none⟩) NB135_123.out _).trans (((cell_far (p:=⟨gb123,_,none⟩) NB135_123.out _).trans (hHeld.1)))))),((cell_far (p:=⟨gb123,_,none⟩) NB135_123.out _).trans (((cell_far (p:=⟨gb123,_,none⟩) NB135_123.out _).trans (((cell_far (p:=⟨gb123,_,none⟩) NB135_123.out _).trans (hHeld.2.1)))))),((cell_far (p:=⟨gb123,_,none⟩) NB135_123.out _).trans (((cell_far (p:=⟨gb123,_,none⟩) NB135_123.out _).trans (((cell_far (p:=⟨gb123,_,none⟩) NB135_123.out _).trans (hHeld.2.2))))))⟩ (fun hHeld=>?_)
     clear hK K
     refine pure_ (i:=15) (N:=some 3) (v:=?_) (a':=?_) #[true,true,true,true,true,true,true,true,true,true,true,true,true,true,true,true] rfl rfl (any_of HT_.out (by kernel_rfl)) (fun _ _ _ h=>h) (Or.inl ⟨by rfl,?_⟩) ?_ ?_
     rotate_left
     · intro w'
       go_simp;with_reducible rfl
     rotate_left
     · simp only [Act.put,zA,zB,zC,i64_w,i32_w]
       rfl
     refine done_ (done_of HT_.out (by kernel_rfl)) ?_
     try go_wp2
     refine bodyPost_ret (results_ct rfl _ _ gb123 26 #[.int .i64 t132,.int .i64 t134,.int .i64 0] (0,0) _ rfl (by (with_reducible repeat (first|refine zD ?_ _|refine zF ?_|refine zE ?_ _));refine blk_put (cs:=#[.int .i64 t132,.int .i64 t134,.int .i64 0]) ?_ 2 _ rfl;(with_reducible repeat (first|refine zD ?_ _|refine zF ?_|refine zE ?_ _));refine blk_put (cs:=#[.int .i64 t132,.int .i64 0,.int .i64 0]) ?_ 1 _ rfl;(with_reducible repeat (first|refine zD ?_ _|refine zF ?_|refine zE ?_ _));refine blk_put (cs:=#[.int .i64 0,.int .i64 0,.int .i64 0]) ?_ 0 _ rfl;(with_reducible repeat (first|refine zD ?_ _|refine zF ?_|refine zE ?_ _));exact BK123.out) Tryd.underlying26 rfl (by kernel_rfl)) rfl ?_
     exact ⟨by first|rfl|(simp [errW_none,errW_some] <;> rfl)|(simp [*,errW_none,errW_some] <;> rfl),by repeat (first|(with_reducible first|exact HB.out|apply zJ|apply zG|apply zH|refine zK ?_ GE123.out|refine zK ?_ GE135.out)|exact HB.out)⟩
   rw [if_pos c16] at H
   have c16b0 : ((t128.length : Int) == 2) = true:=beq_iff_eq.mpr c16
   have c16b1 : ((t128.length : Int) != 2) = false:=bne_eq_false_iff_eq.mpr c16
   clear c16
   by_cases c17 : 1 < (t128.length : Int)
   rotate_left
   · rw [if_neg c17] at H
     exact absurd H (by simp)
   rw [if_pos c17] at H
   have c17b0 : decide (1 < (t128.length : Int)) = true:=decide_eq_true c17
   have c17b1 : decide (1 < t128.length) = true:=decide_eq_true (by omega)
   clear c17;replace H:=Option.bind_eq_some_iff.mp H
   obtain ⟨t137,A180,H⟩:=H
   replace H : (if (t128.length : Int) < 3 then ((spec_rdGood.f t132 t134 t137).bind fun t138=>(if t138 = true then ((spec_rdText.f kj2 t132 t134 t137).bind fun t139=>(some (t132,t134,t137,(t139.toList == a0.toList)))) else (some (t132,t134,t137,false)))) else (some (t132,t134,t137,false))) = some (r1,r2,r3,r4):=H
   have A18:=zI A180;clear A180
   by_cases c19 : (t128.length : Int) < 3
   rotate_left
   · rw [if_neg c19] at H
     have c19b0 : decide ((t128.length : Int) < 3) = false:=decide_eq_false c19
     have c19b1 : decide (t128.length < 3) = false:=decide_eq_false (by omega)
     clear c19
     simp only [Option.some.injEq,Prod.mk.injEq] at H
     obtain ⟨rfl,rfl,rfl,rfl⟩:=H
     obtain ⟨Ao60,co60,eo60⟩:=Kd.R_slice HO_4.out
     subst eo60
     have p127 : 0 ≤ (1 : Int):=(by omega)
     have q127 : 1 < (t124.length : Int):=of_decide_eq_true (by first|(with_reducible assumption)|assumption)
     obtain ⟨ad127,e127,hx127_0⟩:=Kd.at_string (Kd.R_reads' HO_4.out).2.2 1 p127 q127
     cases e127
     (try simp only [show (1 : Int).toNat = 1 from rfl,Nat.reduceMul,Nat.reduceEqDiff,Go.Addr.add,↓reduceIte] at hx127_0)
     have qi127 : (1 < t124.length) = True:=eq_true (by omega)
     (try rw [show ((1 : Int)).toNat = 1 from rfl] at hx127_0)
     replace p127:=eq_true p127
     replace q127:=eq_true q127
     try go_wp2_with (first|((with_reducible refine gate_callee (f:=24) rfl ?_);refine goesL_ (some 21) rfl rfl Tryd.func24 (by kernel_rfl) rfl #[.string (rdOf ByteArray.empty t124 1),.int .u8 47] rfl (by (try simp only [List.map_toArray,List.map_cons,List.map_nil]);first|done|rfl|(simp only [List.length_drop,List.length_take];rfl)) ?_;(with_reducible refine (spec_l1Split.calls kj2 (rdOf ByteArray.empty t124 1) 47 t128 _ A11.out).mono ?_);rintro e w61 ⟨v129,rfl,ho0,hb⟩;refine ⟨_,rfl,?_⟩;have n0_:=zI (Kd.R_elder' (by (with_reducible repeat (first|apply Kd.R_alloc|apply Kd.R_drewN|apply Kd.R_drew));exact HO_4.out) (Kd.R_base ho0) hb);have n1_:=zI (Kd.R_lower (Kd.R_new' ho0 (Kd.R_lt (by (with_reducible repeat (first|apply Kd.R_alloc|apply Kd.R_drewN|apply Kd.R_drew));exact HO_4.out))) (below_size (by repeat (first|(with_reducible first|exact HB.out|apply zJ|apply zG|apply zH|refine zK ?_ GE123.out)|exact HB.out))));have n2_:=zI (blk_below (g:=gb123) (o:=.cells #[.int .i64 0,.int .i64 0,.int .i64 0] 26 (0,0)) (by (with_reducible repeat (first|refine zD ?_ _|refine zF ?_|refine zE ?_ _));exact BK123.out) hb);have n3_:=zI (below_step (by repeat (first|(with_reducible first|exact HB.out|apply zJ|apply zG|apply zH|refine zK ?_ GE123.out)|exact HB.out)) hb);clear HO_4;clear BK123;clear HB;have HO_4:=n0_;have HO130:=n1_;have BK123:=n2_;have HB:=n3_;clear n0_ n1_ n2_ n3_;(try clear hb);(try clear hb2);(try clear hk);(try clear hi);(try clear ho0)))
     have n0_:=zI (Kd.R_drew HO_4.out)
     have n1_:=zI (Kd.R_drew HO130.out)
     have n2_:=zI (zF BK123.out)
     have n3_:=zI (zH HB.out)
     clear HO_4 HO130 BK123 HB;have HO_4:=n0_;have HO130:=n1_;have BK123:=n2_;have HB:=n3_;clear n0_ n1_ n2_ n3_
     have p131 : 0 ≤ (0 : Int):=(by omega)
     have q131 : 0 < (t124.length : Int):=of_decide_eq_true (by first|(with_reducible assumption)|assumption)
     obtain ⟨ad131,e131,hx131_0⟩:=Kd.at_string (Kd.R_reads' HO_4.out).2.2 0 p131 q131
     obtain rfl : ad127 = ad131:=(by injection e131)
     have qi131 : (0 < t124.length) = True:=eq_true (by omega)
     (try rw [show ((0 : Int)).toNat = 0 from rfl] at hx131_0);(try rw [Addr.add_zero'] at hx131_0)
     replace p131:=eq_true p131
     replace q131:=eq_true q131
     obtain ⟨Ao63,co63,eo63⟩:=Kd.R_slice HO130.out
     (first|subst eo63|(injection eo63 with f1_ f2_ f3_;have f4_:=f1_.symm;have f5_:=f3_.symm;clear f1_ f2_ f3_;subst f4_;subst f5_))
     have p133 : 0 ≤ (0 : Int):=(by omega)
     have q133 : 0 < (t128.length : Int):=of_decide_eq_true (by first|(with_reducible assumption)|assumption)
     obtain ⟨ad133,e133,hx133_0⟩:=Kd.at_string (Kd.R_reads' HO130.out).2.2 0 p133 q133
     cases e133
     have qi133 : (0 < t128.length) = True:=eq_true (by omega)
     (try rw [show ((0 : Int)).toNat = 0 from rfl] at hx133_0);(try rw [Addr.add_zero'] at hx133_0)
     replace p133:=eq_true p133
     replace q133:=eq_true q133
     refine start_ (n:=11) (S:=fun w'=>w'.cell? ad127 = some (.string (rdOf ByteArray.empty t124 0)) ∧ w'.cell? ad133 = some (.string (rdOf ByteArray.empty t128 0))) (ds:=[]) #[false,false,false,false,false,false,false,false,false,false,false] (by kernel_rfl) rfl rfl ⟨hx131_0,hx133_0⟩ (fun hHeld=>?_);refine with_tabW spec_rdParse.tab5 spec_rdParse.bits5 (fun HT_ HW_=>?_)
     generalize w61.drew = w62 at HO_4 HO130 BK123 HB hx131_0 hx133_0 hHeld ⊢
     refine pure_ (i:=0) (N:=some 22) (v:=?_) (a':=?_) #[true,false,false,false,false,false,false,false,false,false,false] rfl rfl (any_of HT_.out (by kernel_rfl)) (fun _ _ _ h=>h) (Or.inl ⟨by rfl,?_⟩) ?_ ?_
     rotate_left
     · intro w'
       go_simp;with_reducible rfl
     rotate_left
     · simp only [Act.put,zA,zB,zC,i64_w,i32_w]
       rfl
     refine pure_ (i:=1) (N:=some 23) (v:=?_) (a':=?_) #[true,true,false,false,false,false,false,false,false,false,false] rfl rfl (any_of HT_.out (by kernel_rfl)) (fun _ _ _ h=>h) (Or.inl ⟨by rfl,?_⟩) ?_ ?_
     rotate_left
     · intro w'
       go_simp;with_reducible rfl
     rotate_left
     · simp only [Act.put,zA,zB,zC,i64_w,i32_w]
       rfl
     refine pure_ (i:=4) (N:=some 26) (v:=?_) (a':=?_) #[true,true,false,false,true,false,false,false,false,false,false] rfl rfl (any_of HT_.out (by kernel_rfl)) (fun _ _ _ h=>h) (Or.inl ⟨by rfl,?_⟩) ?_ ?_
     rotate_left
     · intro w'
       go_simp;with_reducible rfl
     rotate_left
     · simp only [Act.put,zA,zB,zC,i64_w,i32_w]
       rfl
     refine pure_ (i:=5) (N:=some 27) (v:=?_) (a':=?_) #[true,true,false,false,true,true,false,false,false,false,false] rfl rfl (any_of HT_.out (by kernel_rfl)) (fun _ _ _ h=>h) (Or.inl ⟨by rfl,?_⟩) ?_ ?_
     rotate_left
     · intro w'
       go_simp;with_reducible rfl
     rotate_left
     · simp only [Act.put,zA,zB,zC,i64_w,i32_w]
       rfl
     refine take_ (i:=2) (N:=some 24) (v:=?_) (a':=?_) #[true,true,true,false,true,true,false,false,false,false,false] rfl rfl (take_ofW HT_.out HW_.out (by kernel_rfl)) (fun _ _ _ h=>h) (Or.inl ⟨by rfl,?_⟩) hHeld ?_ ?_
     rotate_left
     · rintro w' ⟨s0,s1⟩
       go_simp;with_reducible rfl
     rotate_left
     · simp only [Act.put,zA,zB,zC,i64_w,i32_w]
       rfl
     refine take_ (i:=6) (N:=some 28) (v:=?_) (a':=?_) #[true,true,true,false,true,true,true,false,false,false,false] rfl rfl (take_ofW HT_.out HW_.out (by kernel_rfl)) (fun _ _ _ h=>h) (Or.inl ⟨by rfl,?_⟩) hHeld ?_ ?_
     rotate_left
     · rintro w' ⟨s0,s1⟩
       go_simp;with_reducible rfl
     rotate_left
     · simp only [Act.put,zA,zB,zC,i64_w,i32_w]
       rfl
     refine join_ (σ:=Nat) 1 #[true,true,true,true,true,true,true,true,true,true,false] (fun s_=>[(25,.int .i64 t132),(29,.int .i64 t134),(6,.pointer (some ⟨s_,0,none⟩)),(30,.agg #[.int .i64 t132,.int .i64 t134,.int .i64 0])]) (fun s_ w'=>(w'.cell? ad127 = some (.string (rdOf ByteArray.empty t124 0)) ∧ w'.cell? ad133 = some (.string (rdOf ByteArray.empty t128 0))) ∧ (Kd.R Kd.string 9 w' w.heap.size (fun k_=>some k_ ≠ (.slice (some ad127) t124.length co60 : Value).ownBlock) (.slice (some ad133) t128.length co63) t128) ∧ (Kd.R Kd.string 9 w' w.heap.size (fun k_=>some k_ ≠ (.slice (some ad133) t128.length co63 : Value).ownBlock) (.slice (some ad127) t124.length co60) t124) ∧ (w'.heap[gb123]? = some (.cells #[.int .i64 0,.int .i64 0,.int .i64 0] 26 (0,0))) ∧ (w'.heap[s_]? = some (.cells #[.int .i64 0,.int .i64 0,.int .i64 0] 26 (0,0))) ∧ (w.heap.size ≤ s_) ∧ (w.heap.size ≤ s_) ∧ (gb123 ≠ s_) ∧ (s_ ≠ gb123) ∧ (Below w.heap.size w w')) ?_ ?_
     rotate_left
     · intro hCont
       refine two_ (i:=3) (j:=9) (Ni:=some 25) (Nj:=some 6) #[true,true,true,true,true,true,true,false,false,false,false] #[true,true,true,false,true,true,true,false,false,true,false] rfl rfl rfl rfl (two_of HT_.out (by kernel_rfl)) (by decide) (by decide) (fun K hK=>?_) (fun K hK=>?_)
       rotate_left
       · skip
         refine box_step ?hg (N:=6) ?hd (cs:=#[.int .i64 0,.int .i64 0,.int .i64 0]) (t:=26) ?hr ?_;(case hd=>rfl);(case hg=>rfl);(case hr=>first|(go_simp;done)|(go_simp;rfl))
         intro gb135 hg w64 hbox hb
         have HS0_:=(hb.cell (World.block_lt_of_cell? _ _ (hHeld.1))).trans (hHeld.1)
         have HS1_:=(hb.cell (World.block_lt_of_cell? _ _ (hHeld.2))).trans (hHeld.2)
         have n0_:=zI (Kd.R_below (by (with_reducible repeat (first|apply Kd.R_alloc|apply Kd.R_drewN|apply Kd.R_drew));exact HO_4.out) hb)
         have n1_:=zI (Kd.R_below (by (with_reducible repeat (first|apply Kd.R_alloc|apply Kd.R_drewN|apply Kd.R_drew));exact HO130.out) hb)
         have n2_:=zI (blk_below (g:=gb123) (o:=.cells #[.int .i64 0,.int .i64 0,.int .i64 0] 26 (0,0)) (by (with_reducible repeat (first|refine zD ?_ _|refine zF ?_|refine zE ?_ _));exact BK123.out) hb)
         have n3_:=zI (below_step (by repeat (first|(with_reducible first|exact HB.out|apply zJ|apply zG|apply zH|refine zK ?_ GE123.out)|exact HB.out)) hb)
         have n4_:=zI (hbox)
         have n5_:=zI ((by rw [hg];exact (below_size (by repeat (first|(with_reducible first|exact HB.out|apply zJ|apply zG|apply zH|refine zK ?_ GE123.out)|exact HB.out))) : w.heap.size ≤ gb135))
         have n6_:=zI ((by rw [hg];exact (below_size (by repeat (first|(with_reducible first|exact HB.out|apply zJ|apply zG|apply zH|refine zK ?_ GE123.out)|exact HB.out))) : w.heap.size ≤ gb135))
         have n7_:=zI ((by rw [hg];exact Nat.ne_of_lt (blk_lt (g:=gb123) (o:=.cells #[.int .i64 0,.int .i64 0,.int .i64 0] 26 (0,0)) (by (with_reducible repeat (first|refine zD ?_ _|refine zF ?_|refine zE ?_ _));exact BK123.out)) : gb123 ≠ gb135))
         have n8_:=zI ((by rw [hg];exact Nat.ne_of_gt (blk_lt (g:=gb123) (o:=.cells #[.int .i64 0,.int .i64 0,.int .i64 0] 26 (0,0)) (by (with_reducible repeat (first|refine zD ?_ _|refine zF ?_|refine zE ?_ _));exact BK123.out)) : gb135 ≠ gb123))
         clear HO_4 HO130 BK123 HB;have HO_4:=n0_;have HO130:=n1_;have BK123:=n2_;have HB:=n3_;have BK135:=n4_;have GW135:=n5_;have GE135:=n6_;have NB123_135:=n7_;have NB135_123:=n8_;clear n0_ n1_ n2_ n3_ n4_ n5_ n6_ n7_ n8_ hb hbox hg
         refine hK.out _ _ ⟨HS0_,HS1_⟩ (fun hHeld=>?_)
         clear hK K
         refine norm_ (a':=?_) ?_ ?_
         rotate_left
         · show Act.put _ (some 6) _ = _
           simp only [Act.put,zA,zB,zC,i64_w,i32_w]
           rfl
         refine one_ (i:=3) (N:=some 25) #[true,true,true,true,true,true,true,false,false,true,false] rfl rfl (one_of HT_.out (by kernel_rfl)) (by decide) (fun K hK=>?_)
         refine goes_ Tryd.func25 (by kernel_rfl) rfl #[.string (rdOf ByteArray.empty t124 0)] (by rfl) rfl rfl (by (try simp only [List.map_toArray,List.map_cons,List.map_nil]);first|done|rfl|(simp only [List.length_drop,List.length_take];rfl)) ?_
         with_reducible refine (spec_l1Read.calls kj2 (rdOf ByteArray.empty t124 0) t132 _ A13.out).mono ?_
         rintro e w' ⟨rfl,⟨nd,rfl⟩⟩
         refine ⟨_,rfl,?_⟩
         refine hK.out _ _ ⟨hHeld.1,hHeld.2⟩ (fun hHeld=>?_)
         clear hK K
         refine norm_ (a':=?_) ?_ ?_
         rotate_left
         · show Act.put _ (some 25) _ = _
           simp only [Act.put,zA,zB,zC,i64_w,i32_w]
           rfl
         refine one_ (i:=7) (N:=some 29) #[true,true,true,true,true,true,true,true,false,true,false] rfl rfl (one_of HT_.out (by kernel_rfl)) (by decide) (fun K hK=>?_)
         refine goes_ Tryd.func25 (by kernel_rfl) rfl #[.string (rdOf ByteArray.empty t128 0)] (by rfl) rfl rfl (by (try simp only [List.map_toArray,List.map_cons,List.map_nil]);first|done|rfl|(simp only [List.length_drop,List.length_take];rfl)) ?_
         with_reducible refine (spec_l1Read.calls kj2 (rdOf ByteArray.empty t128 0) t134 _ A15.out).mono ?_
         rintro e w' ⟨rfl,⟨nd,rfl⟩⟩
         refine ⟨_,rfl,?_⟩
         refine hK.out _ _ ⟨hHeld.1,hHeld.2⟩ (fun hHeld=>?_)
         clear hK K
         refine norm_ (a':=?_) ?_ ?_
         rotate_left
         · show Act.put _ (some 29) _ = _
           simp only [Act.put,zA,zB,zC,i64_w,i32_w]
           rfl
         refine pure_ (i:=8) (N:=some 30) (v:=?_) (a':=?_) #[true,true,true,true,true,true,true,true,true,true,false] rfl rfl (any_of HT_.out (by kernel_rfl)) (fun _ _ _ h=>h) (Or.inl ⟨by rfl,?_⟩) ?_ ?_
         rotate_left
         · intro w'
           go_simp;with_reducible rfl
         rotate_left
         · simp only [Act.put,zA,zB,zC,i64_w,i32_w]
           rfl
         exact norm_ (by simp only [putAll,Act.put,zA,zB,zC]) (hCont (gb135) _ ⟨hHeld,(by (with_reducible repeat (first|apply Kd.R_alloc|apply Kd.R_drewN|apply Kd.R_drew));exact Kd.R_mono HO130.out (fun _ hk=>hk.2)),(by (with_reducible repeat (first|apply Kd.R_alloc|apply Kd.R_drewN|apply Kd.R_drew));exact Kd.R_mono HO_4.out (fun _ hk=>hk.2)),(by (with_reducible repeat (first|refine zD ?_ _|refine zF ?_|refine zE ?_ _));exact BK123.out),(by (with_reducible repeat (first|refine zD ?_ _|refine zF ?_|refine zE ?_ _));exact BK135.out),GW135.out,GE135.out,NB123_135.out,NB135_123.out,(by repeat (first|(with_reducible first|exact HB.out|apply zJ|apply zG|apply zH|refine zK ?_ GE123.out|refine zK ?_ GE135.out)|exact HB.out))⟩)
       skip
       refine goes_ Tryd.func25 (by kernel_rfl) rfl #[.string (rdOf ByteArray.empty t124 0)] (by rfl) rfl rfl (by (try simp only [List.map_toArray,List.map_cons,List.map_nil]);first|done|rfl|(simp only [List.length_drop,List.length_take];rfl)) ?_
       with_reducible refine (spec_l1Read.calls kj2 (rdOf ByteArray.empty t124 0) t132 _ A13.out).mono ?_
       rintro e w' ⟨rfl,⟨nd,rfl⟩⟩
       refine ⟨_,rfl,?_⟩
       refine hK.out _ _ ⟨hHeld.1,hHeld.2⟩ (fun hHeld=>?_)
       clear hK K
       refine norm_ (a':=?_) ?_ ?_
       rotate_left
       · show Act.put _ (some 25) _ = _
         simp only [Act.put,zA,zB,zC,i64_w,i32_w]
         rfl
       refine two_ (i:=7) (j:=9) (Ni:=some 29) (Nj:=some 6) #[true,true,true,true,true,true,true,true,false,false,false] #[true,true,true,true,true,true,true,false,false,true,false] rfl rfl rfl rfl (two_of HT_.out (by kernel_rfl)) (by decide) (by decide) (fun K hK=>?_) (fun K hK=>?_)
       · skip
         refine goes_ Tryd.func25 (by kernel_rfl) rfl #[.string (rdOf ByteArray.empty t128 0)] (by rfl) rfl rfl (by (try simp only [List.map_toArray,List.map_cons,List.map_nil]);first|done|rfl|(simp only [List.length_drop,List.length_take];rfl)) ?_
         with_reducible refine (spec_l1Read.calls kj2 (rdOf ByteArray.empty t128 0) t134 _ A15.out).mono ?_
         rintro e w' ⟨rfl,⟨nd,rfl⟩⟩
         refine ⟨_,rfl,?_⟩
         refine hK.out _ _ ⟨hHeld.1,hHeld.2⟩ (fun hHeld=>?_)
         clear hK K
         refine norm_ (a':=?_) ?_ ?_
         rotate_left
         · show Act.put _ (some 29) _ = _
           simp only [Act.put,zA,zB,zC,i64_w,i32_w]
           rfl
         refine pure_ (i:=8) (N:=some 30) (v:=?_) (a':=?_) #[true,true,true,true,true,true,true,true,true,false,false] rfl rfl (any_of HT_.out (by kernel_rfl)) (fun _ _ _ h=>h) (Or.inl ⟨by rfl,?_⟩) ?_ ?_
         rotate_left
         · intro w'
           go_simp;with_reducible rfl
         rotate_left
         · simp only [Act.put,zA,zB,zC,i64_w,i32_w]
           rfl
         refine one_ (i:=9) (N:=some 6) #[true,true,true,true,true,true,true,true,true,true,false] rfl rfl (one_of HT_.out (by kernel_rfl)) (by decide) (fun K hK=>?_)
         refine box_step ?hg (N:=6) ?hd (cs:=#[.int .i64 0,.int .i64 0,.int .i64 0]) (t:=26) ?hr ?_;(case hd=>rfl);(case hg=>rfl);(case hr=>first|(go_simp;done)|(go_simp;rfl))
         intro gb135 hg w64 hbox hb
         have HS0_:=(hb.cell (World.block_lt_of_cell? _ _ (hHeld.1))).trans (hHeld.1)
         have HS1_:=(hb.cell (World.block_lt_of_cell? _ _ (hHeld.2))).trans (hHeld.2)
         have n0_:=zI (Kd.R_below (by (with_reducible repeat (first|apply Kd.R_alloc|apply Kd.R_drewN|apply Kd.R_drew));exact HO_4.out) hb)
         have n1_:=zI (Kd.R_below (by (with_reducible repeat (first|apply Kd.R_alloc|apply Kd.R_drewN|apply Kd.R_drew));exact HO130.out) hb)
         have n2_:=zI (blk_below (g:=gb123) (o:=.cells #[.int .i64 0,.int .i64 0,.int .i64 0] 26 (0,0)) (by (with_reducible repeat (first|refine zD ?_ _|refine zF ?_|refine zE ?_ _));exact BK123.out) hb)
         have n3_:=zI (below_step (by repeat (first|(with_reducible first|exact HB.out|apply zJ|apply zG|apply zH|refine zK ?_ GE123.out)|exact HB.out)) hb)
         have n4_:=zI (hbox)
         have n5_:=zI ((by rw [hg];exact (below_size (by repeat (first|(with_reducible first|exact HB.out|apply zJ|apply zG|apply zH|refine zK ?_ GE123.out)|exact HB.out))) : w.heap.size ≤ gb135))
         have n6_:=zI ((by rw [hg];exact (below_size (by repeat (first|(with_reducible first|exact HB.out|apply zJ|apply zG|apply zH|refine zK ?_ GE123.out)|exact HB.out))) : w.heap.size ≤ gb135))
         have n7_:=zI ((by rw [hg];exact Nat.ne_of_lt (blk_lt (g:=gb123) (o:=.cells #[.int .i64 0,.int .i64 0,.int .i64 0] 26 (0,0)) (by (with_reducible repeat (first|refine zD ?_ _|refine zF ?_|refine zE ?_ _));exact BK123.out)) : gb123 ≠ gb135))
         have n8_:=zI ((by rw [hg];exact Nat.ne_of_gt (blk_lt (g:=gb123) (o:=.cells #[.int .i64 0,.int .i64 0,.int .i64 0] 26 (0,0)) (by (with_reducible repeat (first|refine zD ?_ _|refine zF ?_|refine zE ?_ _));exact BK123.out)) : gb135 ≠ gb123))
         clear HO_4 HO130 BK123 HB;have HO_4:=n0_;have HO130:=n1_;have BK123:=n2_;have HB:=n3_;have BK135:=n4_;have GW135:=n5_;have GE135:=n6_;have NB123_135:=n7_;have NB135_123:=n8_;clear n0_ n1_ n2_ n3_ n4_ n5_ n6_ n7_ n8_ hb hbox hg
         refine hK.out _ _ ⟨HS0_,HS1_⟩ (fun hHeld=>?_)
         clear hK K
         refine norm_ (a':=?_) ?_ ?_
         rotate_left
         · show Act.put _ (some 6) _ = _
           simp only [Act.put,zA,zB,zC,i64_w,i32_w]
           rfl
         exact norm_ (by simp only [putAll,Act.put,zA,zB,zC]) (hCont (gb135) _ ⟨hHeld,(by (with_reducible repeat (first|apply Kd.R_alloc|apply Kd.R_drewN|apply Kd.R_drew));exact Kd.R_mono HO130.out (fun _ hk=>hk.2)),(by (with_reducible repeat (first|apply Kd.R_alloc|apply Kd.R_drewN|apply Kd.R_drew));exact Kd.R_mono HO_4.out (fun _ hk=>hk.2)),(by (with_reducible repeat (first|refine zD ?_ _|refine zF ?_|refine zE ?_ _));exact BK123.out),(by (with_reducible repeat (first|refine zD ?_ _|refine zF ?_|refine zE ?_ _));exact BK135.out),GW135.out,GE135.out,NB123_135.out,NB135_123.out,(by repeat (first|(with_reducible first|exact HB.out|apply zJ|apply zG|apply zH|refine zK ?_ GE123.out|refine zK ?_ GE135.out)|exact HB.out))⟩)
       skip
       refine box_step ?hg (N:=6) ?hd (cs:=#[.int .i64 0,.int .i64 0,.int .i64 0]) (t:=26) ?hr ?_;(case hd=>rfl);(case hg=>rfl);(case hr=>first|(go_simp;done)|(go_simp;rfl))
       intro gb135 hg w64 hbox hb
       have HS0_:=(hb.cell (World.block_lt_of_cell? _ _ (hHeld.1))).trans (hHeld.1)
       have HS1_:=(hb.cell (World.block_lt_of_cell? _ _ (hHeld.2))).trans (hHeld.2)
       have n0_:=zI (Kd.R_below (by (with_reducible repeat (first|apply Kd.R_alloc|apply Kd.R_drewN|apply Kd.R_drew));exact HO_4.out) hb)
       have n1_:=zI (Kd.R_below (by (with_reducible repeat (first|apply Kd.R_alloc|apply Kd.R_drewN|apply Kd.R_drew));exact HO130.out) hb)
       have n2_:=zI (blk_below (g:=gb123) (o:=.cells #[.int .i64 0,.int .i64 0,.int .i64 0] 26 (0,0)) (by (with_reducible repeat (first|refine zD ?_ _|refine zF ?_|refine zE ?_ _));exact BK123.out) hb)
       have n3_:=zI (below_step (by repeat (first|(with_reducible first|exact HB.out|apply zJ|apply zG|apply zH|refine zK ?_ GE123.out)|exact HB.out)) hb)
       have n4_:=zI (hbox)
       have n5_:=zI ((by rw [hg];exact (below_size (by repeat (first|(with_reducible first|exact HB.out|apply zJ|apply zG|apply zH|refine zK ?_ GE123.out)|exact HB.out))) : w.heap.size ≤ gb135))
       have n6_:=zI ((by rw [hg];exact (below_size (by repeat (first|(with_reducible first|exact HB.out|apply zJ|apply zG|apply zH|refine zK ?_ GE123.out)|exact HB.out))) : w.heap.size ≤ gb135))
       have n7_:=zI ((by rw [hg];exact Nat.ne_of_lt (blk_lt (g:=gb123) (o:=.cells #[.int .i64 0,.int .i64 0,.int .i64 0] 26 (0,0)) (by (with_reducible repeat (first|refine zD ?_ _|refine zF ?_|refine zE ?_ _));exact BK123.out)) : gb123 ≠ gb135))
       have n8_:=zI ((by rw [hg];exact Nat.ne_of_gt (blk_lt (g:=gb123) (o:=.cells #[.int .i64 0,.int .i64 0,.int .i64 0] 26 (0,0)) (by (with_reducible repeat (first|refine zD ?_ _|refine zF ?_|refine zE ?_ _));exact BK123.out)) : gb135 ≠ gb123))
       clear HO_4 HO130 BK123 HB;have HO_4:=n0_;have HO130:=n1_;have BK123:=n2_;have HB:=n3_;have BK135:=n4_;have GW135:=n5_;have GE135:=n6_;have NB123_135:=n7_;have NB135_123:=n8_;clear n0_ n1_ n2_ n3_ n4_ n5_ n6_ n7_ n8_ hb hbox hg
       refine hK.out _ _ ⟨HS0_,HS1_⟩ (fun hHeld=>?_)
       clear hK K
       refine norm_ (a':=?_) ?_ ?_
       rotate_left
       · show Act.put _ (some 6) _ = _
         simp only [Act.put,zA,zB,zC,i64_w,i32_w]
         rfl
       refine one_ (i:=7) (N:=some 29) #[true,true,true,true,true,true,true,true,false,true,false] rfl rfl (one_of HT_.out (by kernel_rfl)) (by decide) (fun K hK=>?_)
       refine goes_ Tryd.func25 (by kernel_rfl) rfl #[.string (rdOf ByteArray.empty t128 0)] (by rfl) rfl rfl (by (try simp only [List.map_toArray,List.map_cons,List.map_nil]);first|done|rfl|(simp only [List.length_drop,List.length_take];rfl)) ?_
       with_reducible refine (spec_l1Read.calls kj2 (rdOf ByteArray.empty t128 0) t134 _ A15.out).mono ?_
       rintro e w' ⟨rfl,⟨nd,rfl⟩⟩
       refine ⟨_,rfl,?_⟩
       refine hK.out _ _ ⟨hHeld.1,hHeld.2⟩ (fun hHeld=>?_)
       clear hK K
       refine norm_ (a':=?_) ?_ ?_
       rotate_left
       · show Act.put _ (some 29) _ = _
         simp only [Act.put,zA,zB,zC,i64_w,i32_w]
         rfl
       refine pure_ (i:=8) (N:=some 30) (v:=?_) (a':=?_) #[true,true,true,true,true,true,true,true,true,true,false] rfl rfl (any_of HT_.out (by kernel_rfl)) (fun _ _ _ h=>h) (Or.inl ⟨by rfl,?_⟩) ?_ ?_
       rotate_left
       · intro w'
         go_simp;with_reducible rfl
       rotate_left
       · simp only [Act.put,zA,zB,zC,i64_w,i32_w]
         rfl
       exact norm_ (by simp only [putAll,Act.put,zA,zB,zC]) (hCont (gb135) _ ⟨hHeld,(by (with_reducible repeat (first|apply Kd.R_alloc|apply Kd.R_drewN|apply Kd.R_drew));exact Kd.R_mono HO130.out (fun _ hk=>hk.2)),(by (with_reducible repeat (first|apply Kd.R_alloc|apply Kd.R_drewN|apply Kd.R_drew));exact Kd.R_mono HO_4.out (fun _ hk=>hk.2)),(by (with_reducible repeat (first|refine zD ?_ _|refine zF ?_|refine zE ?_ _));exact BK123.out),(by (with_reducible repeat (first|refine zD ?_ _|refine zF ?_|refine zE ?_ _));exact BK135.out),GW135.out,GE135.out,NB123_135.out,NB135_123.out,(by repeat (first|(with_reducible first|exact HB.out|apply zJ|apply zG|apply zH|refine zK ?_ GE123.out|refine zK ?_ GE135.out)|exact HB.out))⟩)
     rintro gb135 w65 ⟨hS_,h0_,h1_,h2_,h3_,h4_,h5_,h6_,h7_,h8_⟩
     have n0_ : Aside0 (Kd.R Kd.string 9 w65 w.heap.size (fun k_=>some k_ ≠ (.slice (some ad127) t124.length co60 : Value).ownBlock) (.slice (some ad133) t128.length co63) t128):=⟨h0_⟩
     have n1_ : Aside0 (Kd.R Kd.string 9 w65 w.heap.size (fun k_=>some k_ ≠ (.slice (some ad133) t128.length co63 : Value).ownBlock) (.slice (some ad127) t124.length co60) t124):=⟨h1_⟩
     have n2_ : Aside0 (w65.heap[gb123]? = some (.cells #[.int .i64 0,.int .i64 0,.int .i64 0] 26 (0,0))):=⟨h2_⟩
     have n3_ : Aside0 (w65.heap[gb135]? = some (.cells #[.int .i64 0,.int .i64 0,.int .i64 0] 26 (0,0))):=⟨h3_⟩
     have n4_ : Aside0 (w.heap.size ≤ gb135):=⟨h4_⟩
     have n5_ : Aside0 (w.heap.size ≤ gb135):=⟨h5_⟩
     have n6_ : Aside0 (gb123 ≠ gb135):=⟨h6_⟩
     have n7_ : Aside0 (gb135 ≠ gb123):=⟨h7_⟩
     have n8_ : Aside0 (Below w.heap.size w w65):=⟨h8_⟩
     clear HO_4 HO130 BK123 HB h0_ h1_ h2_ h3_ h4_ h5_ h6_ h7_ h8_;have HO130:=n0_;have HO_4:=n1_;have BK123:=n2_;have BK135:=n3_;have GW135:=n4_;have GE135:=n5_;have NB123_135:=n6_;have NB135_123:=n7_;have HB:=n8_;clear n0_ n1_ n2_ n3_ n4_ n5_ n6_ n7_ n8_
     have hHeld : w65.cell? ad127 = some (.string (rdOf ByteArray.empty t124 0)) ∧ w65.cell? ad133 = some (.string (rdOf ByteArray.empty t128 0)):=hS_
     refine norm_ (a':=?_) ?_ ?_
     rotate_left
     · simp only [putAll,Act.put,zA,zB,zC]
       rfl
     refine one_ (i:=10) (N:=none) #[true,true,true,true,true,true,true,true,true,true,true] rfl rfl (one_of HT_.out (by kernel_rfl)) (by decide) (fun K hK=>?_)
     have hs66 : w65.cell? ⟨gb135,0,none⟩ = some (.int .i64 0):=(blk_cell BK135.out 0).trans rfl
     have hfs66:=blk_frozen BK135.out 0
     have hns66_0:=NB123_135.out;have hms66_0:=NB135_123.out
     have hs67 : w65.cell? ⟨gb135,1,none⟩ = some (.int .i64 0):=(blk_cell BK135.out 1).trans rfl
     have hfs67:=blk_frozen BK135.out 1
     have hns67_0:=NB123_135.out;have hms67_0:=NB135_123.out
     have hs68 : w65.cell? ⟨gb135,2,none⟩ = some (.int .i64 0):=(blk_cell BK135.out 2).trans rfl
     have hfs68:=blk_frozen BK135.out 2
     have hns68_0:=NB123_135.out;have hms68_0:=NB135_123.out
     refine skip_ (w1:=?_) (by rfl) rfl ?_ ?_
     rotate_left
     · go_simp
       rfl
     refine hK.out _ _ ⟨((cell_far (p:=⟨gb135,_,none⟩) (by first|exact Kd.own_blk (Kd.R_ne HO_4.out BK135.out (by decide))|(rw [add_block];exact Kd.own_blk (Kd.R_ne HO_4.out BK135.out (by decide)))|(show (Addr.add _ _).block ≠ _;rw [add_block];exact Kd.own_blk (Kd.R_ne HO_4.out BK135.out (by decide)))|(dsimp only;exact Kd.own_blk (Kd.R_ne HO_4.out BK135.out (by decide)))) _).trans (((cell_far (p:=⟨gb135,_,none⟩) (by first|exact Kd.own_blk (Kd.R_ne HO_4.out BK135.out (by decide))|(rw [add_block];exact Kd.own_blk (Kd.R_ne HO_4.out BK135.out (by decide)))|(show (Addr.add _ _).block ≠ _;rw [add_block];exact Kd.own_blk (Kd.R_ne HO_4.out BK135.out (by decide)))|(dsimp only;exact Kd.own_blk (Kd.R_ne HO_4.out BK135.out (by decide)))) _).trans (((cell_far (p:=⟨gb135,_,none⟩) (by first|exact Kd.own_blk (Kd.R_ne HO_4.out BK135.out (by decide))|(rw [add_block];exact Kd.own_blk (Kd.R_ne HO_4.out BK135.out (by decide)))|(show (Addr.add _ _).block ≠ _;rw [add_block];exact Kd.own_blk (Kd.R_ne HO_4.out BK135.out (by decide)))|(dsimp only;exact Kd.own_blk (Kd.R_ne HO_4.out BK135.out (by decide)))) _).trans (hHeld.1)))))),((cell_far (p:=⟨gb135,_,none⟩) (by first|exact Kd.own_blk (Kd.R_ne HO130.out BK135.out (by decide))|(rw [add_block];exact Kd.own_blk (Kd.R_ne HO130.out BK135.out (by decide)))|(show (Addr.add _ _).block ≠ _;rw [add_block];exact Kd.own_blk (Kd.R_ne HO130.out BK135.out (by decide)))|(dsimp only;exact Kd.own_blk (Kd.R_ne HO130.out BK135.out (by decide)))) _).trans (((cell_far (p:=⟨gb135,_,none⟩) (by first|exact Kd.own_blk (Kd.R_ne HO130.out BK135.out (by decide))|(rw [add_block];exact Kd.own_blk (Kd.R_ne HO130.out BK135.out (by decide)))|(show (Addr.add _ _).block ≠ _;rw [add_block];exact Kd.own_blk (Kd.R_ne HO130.out BK135.out (by decide)))|(dsimp only;exact Kd.own_blk (Kd.R_ne HO130.out BK135.out (by decide)))) _).trans (((cell_far (p:=⟨gb135,_,none⟩) (by first|exact Kd.own_blk (Kd.R_ne HO130.out BK135.out (by decide))|(rw [add_block];exact Kd.own_blk (Kd.R_ne HO130.out BK135.out (by decide)))|(show (Addr.add _ _).block ≠ _;rw [add_block];exact Kd.own_blk (Kd.R_ne HO130.out BK135.out (by decide)))|(dsimp only;exact Kd.own_blk (Kd.R_ne HO130.out BK135.out (by decide)))) _).trans (hHeld.2))))))⟩ (fun hHeld=>?_)
     clear hK K
     refine done_ (done_of HT_.out (by kernel_rfl)) ?_
     have p136 : 0 ≤ (1 : Int):=(by omega)
     have q136 : 1 < (t128.length : Int):=of_decide_eq_true (by first|(with_reducible assumption)|assumption)
     obtain ⟨ad136,e136,hx136_0⟩:=Kd.at_string (Kd.R_reads' HO130.out).2.2 1 p136 q136
     obtain rfl : ad133 = ad136:=(by injection e136)
     (try simp only [show (1 : Int).toNat = 1 from rfl,Nat.reduceMul,Nat.reduceEqDiff,Go.Addr.add,↓reduceIte] at hx136_0)
     have qi136 : (1 < t128.length) = True:=eq_true (by omega)
     (try rw [show ((1 : Int)).toNat = 1 from rfl] at hx136_0)
     have hn136_0 : ad133.block ≠ gb135:=Kd.own_blk (Kd.R_ne HO130.out BK135.out (by decide))
     have hn136_1 : ad133.block ≠ gb135:=Kd.own_blk (Kd.R_ne HO130.out BK135.out (by decide))
     have hn136_2 : ad133.block ≠ gb135:=Kd.own_blk (Kd.R_ne HO130.out BK135.out (by decide))
     replace hx136_0:=(cell_far (p:=⟨gb135,0,none⟩) (by first|(rw [add_block];exact hn136_0)|(show (Addr.add _ _).block ≠ _;rw [add_block];exact hn136_0)|exact hn136_0) (.int .i64 t132)).trans hx136_0
     replace hx136_0:=(cell_far (p:=⟨gb135,1,none⟩) (by first|(rw [add_block];exact hn136_1)|(show (Addr.add _ _).block ≠ _;rw [add_block];exact hn136_1)|exact hn136_1) (.int .i64 t134)).trans hx136_0
     replace hx136_0:=(cell_far (p:=⟨gb135,2,none⟩) (by first|(rw [add_block];exact hn136_2)|(show (Addr.add _ _).block ≠ _;rw [add_block];exact hn136_2)|exact hn136_2) (.int .i64 0)).trans hx136_0
     clear hn136_0 hn136_1 hn136_2
     replace p136:=eq_true p136
     replace q136:=eq_true q136
     try go_wp2_with (first|((with_reducible refine gate_callee (f:=25) rfl ?_);refine goesL_ (some 37) rfl rfl Tryd.func25 (by kernel_rfl) rfl #[.string (rdOf ByteArray.empty t128 1)] rfl (by (try simp only [List.map_toArray,List.map_cons,List.map_nil]);first|done|rfl|(simp only [List.length_drop,List.length_take];rfl)) ?_;(with_reducible refine (spec_l1Read.calls kj2 (rdOf ByteArray.empty t128 1) t137 _ A18.out).mono ?_);rintro e w' ⟨rfl,⟨nd,rfl⟩⟩;refine ⟨_,rfl,?_⟩;have n0_ : Aside0 (Kd.R Kd.string 9 (((w65.setCell ⟨gb135,0,none⟩ (.int .i64 t132)).setCell ⟨gb135,1,none⟩ (.int .i64 t134)).setCell ⟨gb135,2,none⟩ (.int .i64 0)) w.heap.size (fun k_=>some k_ ≠ (.slice (some ad133) t128.length co63 : Value).ownBlock) (.slice (some ad127) t124.length co60) t124):=⟨by (with_reducible repeat (first|apply Kd.R_alloc|apply Kd.R_drewN|apply Kd.R_drew));exact Kd.R_mono (Kd.R_far (p:=⟨gb135,2,none⟩) (Kd.R_far (p:=⟨gb135,1,none⟩) (Kd.R_far (p:=⟨gb135,0,none⟩) (Kd.R_types HO_4.out BK135.out (by decide)) (fun _ hk=>hk.2) (.int .i64 t132)) (fun _ hk=>hk.2) (.int .i64 t134)) (fun _ hk=>hk.2) (.int .i64 0)) (fun _ hk=>hk.1)⟩;have n1_ : Aside0 (Kd.R Kd.string 9 (((w65.setCell ⟨gb135,0,none⟩ (.int .i64 t132)).setCell ⟨gb135,1,none⟩ (.int .i64 t134)).setCell ⟨gb135,2,none⟩ (.int .i64 0)) w.heap.size (fun k_=>some k_ ≠ (.slice (some ad127) t124.length co60 : Value).ownBlock) (.slice (some ad133) t128.length co63) t128):=⟨by (with_reducible repeat (first|apply Kd.R_alloc|apply Kd.R_drewN|apply Kd.R_drew));exact Kd.R_mono (Kd.R_far (p:=⟨gb135,2,none⟩) (Kd.R_far (p:=⟨gb135,1,none⟩) (Kd.R_far (p:=⟨gb135,0,none⟩) (Kd.R_types HO130.out BK135.out (by decide)) (fun _ hk=>hk.2) (.int .i64 t132)) (fun _ hk=>hk.2) (.int .i64 t134)) (fun _ hk=>hk.2) (.int .i64 0)) (fun _ hk=>hk.1)⟩;have n2_ : Aside0 ((((w65.setCell ⟨gb135,0,none⟩ (.int .i64 t132)).setCell ⟨gb135,1,none⟩ (.int .i64 t134)).setCell ⟨gb135,2,none⟩ (.int .i64 0)).heap[gb123]? = some (.cells #[.int .i64 0,.int .i64 0,.int .i64 0] 26 (0,0))):=⟨by (with_reducible repeat (first|refine zD ?_ _|refine zF ?_|refine zE ?_ _));refine blk_far ?_ NB123_135.out _;(with_reducible repeat (first|refine zD ?_ _|refine zF ?_|refine zE ?_ _));refine blk_far ?_ NB123_135.out _;(with_reducible repeat (first|refine zD ?_ _|refine zF ?_|refine zE ?_ _));refine blk_far ?_ NB123_135.out _;(with_reducible repeat (first|refine zD ?_ _|refine zF ?_|refine zE ?_ _));exact BK123.out⟩;have n3_ : Aside0 ((((w65.setCell ⟨gb135,0,none⟩ (.int .i64 t132)).setCell ⟨gb135,1,none⟩ (.int .i64 t134)).setCell ⟨gb135,2,none⟩ (.int .i64 0)).heap[gb135]? = some (.cells #[.int .i64 t132,.int .i64 t134,.int .i64 0] 26 (0,0))):=⟨by (with_reducible repeat (first|refine zD ?_ _|refine zF ?_|refine zE ?_ _));refine blk_put (cs:=#[.int .i64 t132,.int .i64 t134,.int .i64 0]) ?_ 2 _ rfl;(with_reducible repeat (first|refine zD ?_ _|refine zF ?_|refine zE ?_ _));refine blk_put (cs:=#[.int .i64 t132,.int .i64 0,.int .i64 0]) ?_ 1 _ rfl;(with_reducible repeat (first|refine zD ?_ _|refine zF ?_|refine zE ?_ _));refine blk_put (cs:=#[.int .i64 0,.int .i64 0,.int .i64 0]) ?_ 0 _ rfl;(with_reducible repeat (first|refine zD ?_ _|refine zF ?_|refine zE ?_ _));exact BK135.out⟩;have n4_ : Aside0 (Below w.heap.size w (((w65.setCell ⟨gb135,0,none⟩ (.int .i64 t132)).setCell ⟨gb135,1,none⟩ (.int .i64 t134)).setCell ⟨gb135,2,none⟩ (.int .i64 0))):=⟨by repeat (first|(with_reducible first|exact HB.out|apply zJ|apply zG|apply zH|refine zK ?_ GE123.out|refine zK ?_ GE135.out)|exact HB.out)⟩;(try clear HO_4);(try clear HO130);(try clear BK123);(try clear BK135);(try clear HB);generalize (((w65.setCell ⟨gb135,0,none⟩ (.int .i64 t132)).setCell ⟨gb135,1,none⟩ (.int .i64 t134)).setCell ⟨gb135,2,none⟩ (.int .i64 0)) = w69 at n0_ n1_ n2_ n3_ n4_ ⊢;have HO_4:=n0_;have HO130:=n1_;have BK123:=n2_;have BK135:=n3_;have HB:=n4_;clear n0_ n1_ n2_ n3_ n4_;(try (rw [drewN_self w69];generalize hq_ : World.drewN w69 _ = w69;have n0_ : Aside0 (Kd.R Kd.string 9 w69 w.heap.size (fun k_=>some k_ ≠ (.slice (some ad127) t124.length co60 : Value).ownBlock) (.slice (some ad133) t128.length co63) t128):=⟨by rw [← hq_];exact (by (with_reducible repeat (first|apply Kd.R_alloc|apply Kd.R_drewN|apply Kd.R_drew));exact HO130.out)⟩;have n1_ : Aside0 (Kd.R Kd.string 9 w69 w.heap.size (fun k_=>some k_ ≠ (.slice (some ad133) t128.length co63 : Value).ownBlock) (.slice (some ad127) t124.length co60) t124):=⟨by rw [← hq_];exact (by (with_reducible repeat (first|apply Kd.R_alloc|apply Kd.R_drewN|apply Kd.R_drew));exact HO_4.out)⟩;have n2_ : Aside0 (w69.heap[gb123]? = some (.cells #[.int .i64 0,.int .i64 0,.int .i64 0] 26 (0,0))):=⟨by rw [← hq_];exact (by (with_reducible repeat (first|refine zD ?_ _|refine zF ?_|refine zE ?_ _));exact BK123.out)⟩;have n3_ : Aside0 (w69.heap[gb135]? = some (.cells #[.int .i64 t132,.int .i64 t134,.int .i64 0] 26 (0,0))):=⟨by rw [← hq_];exact (by (with_reducible repeat (first|refine zD ?_ _|refine zF ?_|refine zE ?_ _));exact BK135.out)⟩;have n4_ : Aside0 (Below w.heap.size w w69):=⟨by rw [← hq_];exact (by repeat (first|(with_reducible first|exact HB.out|apply zJ|apply zG|apply zH|refine zK ?_ GE123.out|refine zK ?_ GE135.out)|exact HB.out))⟩;clear HO130 HO_4 BK123 BK135 HB hq_;have HO130:=n0_;have HO_4:=n1_;have BK123:=n2_;have BK135:=n3_;have HB:=n4_;clear n0_ n1_ n2_ n3_ n4_));have hnb70:=NB135_123.out;have hnc70:=NB123_135.out;have hcz71_0 : w69.cell? ⟨gb135,0,none⟩ = some (.int .i64 t132):=(blk_cell BK135.out 0).trans rfl;have hcz71_1 : w69.cell? ⟨gb135,1,none⟩ = some (.int .i64 t134):=(blk_cell BK135.out 1).trans rfl;have hcz71_2 : w69.cell? ⟨gb135,2,none⟩ = some (.int .i64 0):=(blk_cell BK135.out 2).trans rfl;have hfz71_0:=blk_frozen BK135.out 0;have hfz71_1:=blk_frozen BK135.out 1;have hfz71_2:=blk_frozen BK135.out 2))
     have n0_ : Aside0 (Kd.R Kd.string 9 (w69.setCell ⟨gb135,2,none⟩ (.int .i64 t137)) w.heap.size (fun k_=>some k_ ≠ (.slice (some ad133) t128.length co63 : Value).ownBlock) (.slice (some ad127) t124.length co60) t124):=⟨by (with_reducible repeat (first|apply Kd.R_alloc|apply Kd.R_drewN|apply Kd.R_drew));exact Kd.R_mono (Kd.R_far (p:=⟨gb135,2,none⟩) (Kd.R_types HO_4.out BK135.out (by decide)) (fun _ hk=>hk.2) (.int .i64 t137)) (fun _ hk=>hk.1)⟩
     have n1_ : Aside0 (Kd.R Kd.string 9 (w69.setCell ⟨gb135,2,none⟩ (.int .i64 t137)) w.heap.size (fun k_=>some k_ ≠ (.slice (some ad127) t124.length co60 : Value).ownBlock) (.slice (some ad133) t128.length co63) t128):=⟨by (with_reducible repeat (first|apply Kd.R_alloc|apply Kd.R_drewN|apply Kd.R_drew));exact Kd.R_mono (Kd.R_far (p:=⟨gb135,2,none⟩) (Kd.R_types HO130.out BK135.out (by decide)) (fun _ hk=>hk.2) (.int .i64 t137)) (fun _ hk=>hk.1)⟩
     have n2_ : Aside0 ((w69.setCell ⟨gb135,2,none⟩ (.int .i64 t137)).heap[gb123]? = some (.cells #[.int .i64 0,.int .i64 0,.int .i64 0] 26 (0,0))):=⟨by (with_reducible repeat (first|refine zD ?_ _|refine zF ?_|refine zE ?_ _));refine blk_far ?_ NB123_135.out _;(with_reducible repeat (first|refine zD ?_ _|refine zF ?_|refine zE ?_ _));exact BK123.out⟩
     have n3_ : Aside0 ((w69.setCell ⟨gb135,2,none⟩ (.int .i64 t137)).heap[gb135]? = some (.cells #[.int .i64 t132,.int .i64 t134,.int .i64 t137] 26 (0,0))):=⟨by (with_reducible repeat (first|refine zD ?_ _|refine zF ?_|refine zE ?_ _));refine blk_put (cs:=#[.int .i64 t132,.int .i64 t134,.int .i64 0]) ?_ 2 _ rfl;(with_reducible repeat (first|refine zD ?_ _|refine zF ?_|refine zE ?_ _));exact BK135.out⟩
     have n4_ : Aside0 (Below w.heap.size w (w69.setCell ⟨gb135,2,none⟩ (.int .i64 t137))):=⟨by repeat (first|(with_reducible first|exact HB.out|apply zJ|apply zG|apply zH|refine zK ?_ GE123.out|refine zK ?_ GE135.out)|exact HB.out)⟩
     (try clear HO_4);(try clear HO130);(try clear BK123);(try clear BK135);(try clear HB)
     generalize (w69.setCell ⟨gb135,2,none⟩ (.int .i64 t137)) = w72 at n0_ n1_ n2_ n3_ n4_ ⊢
     have HO_4:=n0_;have HO130:=n1_;have BK123:=n2_;have BK135:=n3_;have HB:=n4_;clear n0_ n1_ n2_ n3_ n4_
     have n0_:=zI (Kd.R_drew HO_4.out)
     have n1_:=zI (Kd.R_drew HO130.out)
     have n2_:=zI (zF BK123.out)
     have n3_:=zI (zF BK135.out)
     have n4_:=zI (zH HB.out)
     clear HO_4 HO130 BK123 BK135 HB;have HO_4:=n0_;have HO130:=n1_;have BK123:=n2_;have BK135:=n3_;have HB:=n4_;clear n0_ n1_ n2_ n3_ n4_
     refine start_ (n:=16) (S:=fun w'=>w'.cell? ⟨gb135,0,none⟩ = some (.int .i64 t132) ∧ w'.cell? ⟨gb135,1,none⟩ = some (.int .i64 t134) ∧ w'.cell? ⟨gb135,2,none⟩ = some (.int .i64 t137)) (ds:=[]) #[false,false,false,false,false,false,false,false,false,false,false,false,false,false,false,false] (by kernel_rfl) rfl rfl ⟨(blk_cell BK135.out 0).trans rfl,(blk_cell BK135.out 1).trans rfl,(blk_cell BK135.out 2).trans rfl⟩ (fun hHeld=>?_);refine with_tabW spec_rdParse.tab8 spec_rdParse.bits8 (fun HT_ HW_=>?_)
     generalize w72.drew = w73 at HO_4 HO130 BK123 BK135 HB hHeld ⊢
     refine pure_ (i:=1) (N:=some 40) (v:=?_) (a':=?_) #[false,true,false,false,false,false,false,false,false,false,false,false,false,false,false,false] rfl rfl (any_of HT_.out (by kernel_rfl)) (fun _ _ _ h=>h) (Or.inl ⟨by rfl,?_⟩) ?_ ?_
     rotate_left
     · intro w'
       go_simp;with_reducible rfl
     rotate_left
     · simp only [Act.put,zA,zB,zC,i64_w,i32_w]
       rfl
     refine pure_ (i:=2) (N:=some 41) (v:=?_) (a':=?_) #[false,true,true,false,false,false,false,false,false,false,false,false,false,false,false,false] rfl rfl (any_of HT_.out (by kernel_rfl)) (fun _ _ _ h=>h) (Or.inl ⟨by rfl,?_⟩) ?_ ?_
     rotate_left
     · intro w'
       go_simp;with_reducible rfl
     rotate_left
     · simp only [Act.put,zA,zB,zC,i64_w,i32_w]
       rfl
     refine pure_ (i:=3) (N:=some 42) (v:=?_) (a':=?_) #[false,true,true,true,false,false,false,false,false,false,false,false,false,false,false,false] rfl rfl (any_of HT_.out (by kernel_rfl)) (fun _ _ _ h=>h) (Or.inl ⟨by rfl,?_⟩) ?_ ?_
     rotate_left
     · intro w'
       go_simp;with_reducible rfl
     rotate_left
     · simp only [Act.put,zA,zB,zC,i64_w,i32_w]
       rfl
     refine pure_ (i:=4) (N:=some 43) (v:=?_) (a':=?_) #[false,true,true,true,true,false,false,false,false,false,false,false,false,false,false,false] rfl rfl (any_of HT_.out (by kernel_rfl)) (fun _ _ _ h=>h) (Or.inl ⟨by rfl,?_⟩) ?_ ?_
     rotate_left
     · intro w'
       go_simp;with_reducible rfl
     rotate_left
     · simp only [Act.put,zA,zB,zC,i64_w,i32_w]
       rfl
     refine pure_ (i:=5) (N:=some 44) (v:=undef) (a':=?_) #[false,true,true,true,true,true,false,false,false,false,false,false,false,false,false,false] rfl rfl (any_of HT_.out (by kernel_rfl)) (fun _ _ _ h=>h) (Or.inr ⟨by rfl,rfl⟩) ?_ ?_
     rotate_left
     · simp only [Act.put,zA,zB,zC,i64_w,i32_w]
       rfl
     refine pure_ (i:=6) (N:=some 45) (v:=undef) (a':=?_) #[false,true,true,true,true,true,true,false,false,false,false,false,false,false,false,false] rfl rfl (any_of HT_.out (by kernel_rfl)) (fun _ _ _ h=>h) (Or.inr ⟨by rfl,rfl⟩) ?_ ?_
     rotate_left
     · simp only [Act.put,zA,zB,zC,i64_w,i32_w]
       rfl
     refine pure_ (i:=7) (N:=some 46) (v:=?_) (a':=?_) #[false,true,true,true,true,true,true,true,false,false,false,false,false,false,false,false] rfl rfl (any_of HT_.out (by kernel_rfl)) (fun _ _ _ h=>h) (Or.inl ⟨by rfl,?_⟩) ?_ ?_
     rotate_left
     · intro w'
       go_simp;with_reducible rfl
     rotate_left
     · simp only [Act.put,zA,zB,zC,i64_w,i32_w]
       rfl
     refine pure_ (i:=8) (N:=some 47) (v:=?_) (a':=?_) #[false,true,true,true,true,true,true,true,true,false,false,false,false,false,false,false] rfl rfl (any_of HT_.out (by kernel_rfl)) (fun _ _ _ h=>h) (Or.inl ⟨by rfl,?_⟩) ?_ ?_
     rotate_left
     · intro w'
       go_simp;with_reducible rfl
     rotate_left
     · simp only [Act.put,zA,zB,zC,i64_w,i32_w]
       rfl
     refine pure_ (i:=9) (N:=some 48) (v:=undef) (a':=?_) #[false,true,true,true,true,true,true,true,true,true,false,false,false,false,false,false] rfl rfl (any_of HT_.out (by kernel_rfl)) (fun _ _ _ h=>h) (Or.inr ⟨by rfl,rfl⟩) ?_ ?_
     rotate_left
     · simp only [Act.put,zA,zB,zC,i64_w,i32_w]
       rfl
     refine pure_ (i:=10) (N:=some 49) (v:=undef) (a':=?_) #[false,true,true,true,true,true,true,true,true,true,true,false,false,false,false,false] rfl rfl (any_of HT_.out (by kernel_rfl)) (fun _ _ _ h=>h) (Or.inr ⟨by rfl,rfl⟩) ?_ ?_
     rotate_left
     · simp only [Act.put,zA,zB,zC,i64_w,i32_w]
       rfl
     refine pure_ (i:=11) (N:=some 50) (v:=undef) (a':=?_) #[false,true,true,true,true,true,true,true,true,true,true,true,false,false,false,false] rfl rfl (any_of HT_.out (by kernel_rfl)) (fun _ _ _ h=>h) (Or.inr ⟨by rfl,rfl⟩) ?_ ?_
     rotate_left
     · simp only [Act.put,zA,zB,zC,i64_w,i32_w]
       rfl
     refine pure_ (i:=12) (N:=some 51) (v:=undef) (a':=?_) #[false,true,true,true,true,true,true,true,true,true,true,true,true,false,false,false] rfl rfl (any_of HT_.out (by kernel_rfl)) (fun _ _ _ h=>h) (Or.inr ⟨by rfl,rfl⟩) ?_ ?_
     rotate_left
     · simp only [Act.put,zA,zB,zC,i64_w,i32_w]
       rfl
     refine pure_ (i:=13) (N:=some 52) (v:=?_) (a':=?_) #[false,true,true,true,true,true,true,true,true,true,true,true,true,true,false,false] rfl rfl (any_of HT_.out (by kernel_rfl)) (fun _ _ _ h=>h) (Or.inl ⟨by rfl,?_⟩) ?_ ?_
     rotate_left
     · intro w'
       go_simp;with_reducible rfl
     rotate_left
     · simp only [Act.put,zA,zB,zC,i64_w,i32_w]
       rfl
     refine take_ (i:=0) (N:=some 39) (v:=?_) (a':=?_) #[true,true,true,true,true,true,true,true,true,true,true,true,true,true,false,false] rfl rfl (take_ofW HT_.out HW_.out (by kernel_rfl)) (fun _ _ _ h=>h) (Or.inl ⟨by rfl,?_⟩) hHeld ?_ ?_
     rotate_left
     · rintro w' ⟨s0,s1,s2⟩
       go_simp;with_reducible rfl
     rotate_left
     · simp only [Act.put,zA,zB,zC,i64_w,i32_w]
       rfl
     refine one_ (i:=14) (N:=none) #[true,true,true,true,true,true,true,true,true,true,true,true,true,true,true,false] rfl rfl (one_of HT_.out (by kernel_rfl)) (by decide) (fun K hK=>?_)
     have hs74 : w73.cell? ⟨gb123,0,none⟩ = some (.int .i64 0):=(blk_cell BK123.out 0).trans rfl
     have hfs74:=blk_frozen BK123.out 0
     have hns74_1:=NB135_123.out;have hms74_1:=NB123_135.out
     have hs75 : w73.cell? ⟨gb123,1,none⟩ = some (.int .i64 0):=(blk_cell BK123.out 1).trans rfl
     have hfs75:=blk_frozen BK123.out 1
     have hns75_1:=NB135_123.out;have hms75_1:=NB123_135.out
     have hs76 : w73.cell? ⟨gb123,2,none⟩ = some (.int .i64 0):=(blk_cell BK123.out 2).trans rfl
     have hfs76:=blk_frozen BK123.out 2
     have hns76_1:=NB135_123.out;have hms76_1:=NB123_135.out
     refine skip_ (w1:=?_) (by rfl) rfl ?_ ?_
     rotate_left
     · go_simp
       rfl
     refine hK.out _ _ ⟨((cell_far (p:=⟨gb123,_,none⟩) NB135_123.out _).trans (((cell_far (p:=⟨gb123,_,none⟩) NB135_123.out _).trans (((cell_far (p:=⟨gb123,_,none⟩) NB135_123.out _).trans (hHeld.1)))))),((cell_far (p:=⟨gb123,_,none⟩) NB135_123.out _).trans (((cell_far (p:=⟨gb123,_,none⟩) NB135_123.out _).trans (((cell_far (p:=⟨gb123,_,none⟩) NB135_123.out _).trans (hHeld.2.1)))))),((cell_far (p:=⟨gb123,_,none⟩) NB135_123.out _).trans (((cell_far (p:=⟨gb123,_,none⟩) NB135_123.out _).trans (((cell_far (p:=⟨gb123,_,none⟩) NB135_123.out _).trans (hHeld.2.2))))))⟩ (fun hHeld=>?_)
     clear hK K
     refine pure_ (i:=15) (N:=some 3) (v:=?_) (a':=?_) #[true,true,true,true,true,true,true,true,true,true,true,true,true,true,true,true] rfl rfl (any_of HT_.out (by kernel_rfl)) (fun _ _ _ h=>h) (Or.inl ⟨by rfl,?_⟩) ?_ ?_
     rotate_left
     · intro w'
       go_simp;with_reducible rfl
     rotate_left
     · simp only [Act.put,zA,zB,zC,i64_w,i32_w]
       rfl
     refine done_ (done_of HT_.out (by kernel_rfl)) ?_
     try go_wp2
     refine bodyPost_ret (results_ct rfl _ _ gb123 26 #[.int .i64 t132,.int .i64 t134,.int .i64 t137] (0,0) _ rfl (by (with_reducible repeat (first|refine zD ?_ _|refine zF ?_|refine zE ?_ _));refine blk_put (cs:=#[.int .i64 t132,.int .i64 t134,.int .i64 0]) ?_ 2 _ rfl;(with_reducible repeat (first|refine zD ?_ _|refine zF ?_|refine zE ?_ _));refine blk_put (cs:=#[.int .i64 t132,.int .i64 0,.int .i64 0]) ?_ 1 _ rfl;(with_reducible repeat (first|refine zD ?_ _|refine zF ?_|refine zE ?_ _));refine blk_put (cs:=#[.int .i64 0,.int .i64 0,.int .i64 0]) ?_ 0 _ rfl;(with_reducible repeat (first|refine zD ?_ _|refine zF ?_|refine zE ?_ _));exact BK123.out) Tryd.underlying26 rfl (by kernel_rfl)) rfl ?_
     exact ⟨by first|rfl|(simp [errW_none,errW_some] <;> rfl)|(simp [*,errW_none,errW_some] <;> rfl),by repeat (first|(with_reducible first|exact HB.out|apply zJ|apply zG|apply zH|refine zK ?_ GE123.out|refine zK ?_ GE135.out)|exact HB.out)⟩
   rw [if_pos c19] at H
   have c19b0 : decide ((t128.length : Int) < 3) = true:=decide_eq_true c19
   have c19b1 : decide (t128.length < 3) = true:=decide_eq_true (by omega)
   clear c19;replace H:=Option.bind_eq_some_iff.mp H
   obtain ⟨t138,A200,H⟩:=H
   replace H : (if t138 = true then ((spec_rdText.f kj2 t132 t134 t137).bind fun t139=>(some (t132,t134,t137,(t139.toList == a0.toList)))) else (some (t132,t134,t137,false))) = some (r1,r2,r3,r4):=H
   have A20:=zI A200;clear A200
   by_cases c21 : t138 = true
   rotate_left
   · replace c21:=Bool.eq_false_iff.mpr c21
     subst c21
     have H1 : (some (t132,t134,t137,false)) = some (r1,r2,r3,r4):=by rw [if_neg (show ¬ (false = true) by decide)] at H;exact H
     clear H;have H:=H1;clear H1
     simp only [Option.some.injEq,Prod.mk.injEq] at H
     obtain ⟨rfl,rfl,rfl,rfl⟩:=H
     obtain ⟨Ao42,co42,eo42⟩:=Kd.R_slice HO_4.out
     subst eo42
     have p127 : 0 ≤ (1 : Int):=(by omega)
     have q127 : 1 < (t124.length : Int):=of_decide_eq_true (by first|(with_reducible assumption)|assumption)
     obtain ⟨ad127,e127,hx127_0⟩:=Kd.at_string (Kd.R_reads' HO_4.out).2.2 1 p127 q127
     cases e127
     (try simp only [show (1 : Int).toNat = 1 from rfl,Nat.reduceMul,Nat.reduceEqDiff,Go.Addr.add,↓reduceIte] at hx127_0)
     have qi127 : (1 < t124.length) = True:=eq_true (by omega)
     (try rw [show ((1 : Int)).toNat = 1 from rfl] at hx127_0)
     replace p127:=eq_true p127
     replace q127:=eq_true q127
     try go_wp2_with (first|((with_reducible refine gate_callee (f:=24) rfl ?_);refine goesL_ (some 21) rfl rfl Tryd.func24 (by kernel_rfl) rfl #[.string (rdOf ByteArray.empty t124 1),.int .u8 47] rfl (by (try simp only [List.map_toArray,List.map_cons,List.map_nil]);first|done|rfl|(simp only [List.length_drop,List.length_take];rfl)) ?_;(with_reducible refine (spec_l1Split.calls kj2 (rdOf ByteArray.empty t124 1) 47 t128 _ A11.out).mono ?_);rintro e w43 ⟨v129,rfl,ho0,hb⟩;refine ⟨_,rfl,?_⟩;have n0_:=zI (Kd.R_elder' (by (with_reducible repeat (first|apply Kd.R_alloc|apply Kd.R_drewN|apply Kd.R_drew));exact HO_4.out) (Kd.R_base ho0) hb);have n1_:=zI (Kd.R_lower (Kd.R_new' ho0 (Kd.R_lt (by (with_reducible repeat (first|apply Kd.R_alloc|apply Kd.R_drewN|apply Kd.R_drew));exact HO_4.out))) (below_size (by repeat (first|(with_reducible first|exact HB.out|apply zJ|apply zG|apply zH|refine zK ?_ GE123.out)|exact HB.out))));have n2_:=zI (blk_below (g:=gb123) (o:=.cells #[.int .i64 0,.int .i64 0,.int .i64 0] 26 (0,0)) (by (with_reducible repeat (first|refine zD ?_ _|refine zF ?_|refine zE ?_ _));exact BK123.out) hb);have n3_:=zI (below_step (by repeat (first|(with_reducible first|exact HB.out|apply zJ|apply zG|apply zH|refine zK ?_ GE123.out)|exact HB.out)) hb);clear HO_4;clear BK123;clear HB;have HO_4:=n0_;have HO130:=n1_;have BK123:=n2_;have HB:=n3_;clear n0_ n1_ n2_ n3_;(try clear hb);(try clear hb2);(try clear hk);(try clear hi);(try clear ho0)))
     have n0_:=zI (Kd.R_drew HO_4.out)
     have n1_:=zI (Kd.R_drew HO130.out)
     have n2_:=zI (zF BK123.out)
     have n3_:=zI (zH HB.out)
     clear HO_4 HO130 BK123 HB;have HO_4:=n0_;have HO130:=n1_;have BK123:=n2_;have HB:=n3_;clear n0_ n1_ n2_ n3_
     have p131 : 0 ≤ (0 : Int):=(by omega)
     have q131 : 0 < (t124.length : Int):=of_decide_eq_true (by first|(with_reducible assumption)|assumption)
     obtain ⟨ad131,e131,hx131_0⟩:=Kd.at_string (Kd.R_reads' HO_4.out).2.2 0 p131 q131
     obtain rfl : ad127 = ad131:=(by injection e131)
     have qi131 : (0 < t124.length) = True:=eq_true (by omega)
     (try rw [show ((0 : Int)).toNat = 0 from rfl] at hx131_0);(try rw [Addr.add_zero'] at hx131_0)
     replace p131:=eq_true p131
     replace q131:=eq_true q131
     obtain ⟨Ao45,co45,eo45⟩:=Kd.R_slice HO130.out
     (first|subst eo45|(injection eo45 with f1_ f2_ f3_;have f4_:=f1_.symm;have f5_:=f3_.symm;clear f1_ f2_ f3_;subst f4_;subst f5_))
     have p133 : 0 ≤ (0 : Int):=(by omega)
     have q133 : 0 < (t128.length : Int):=of_decide_eq_true (by first|(with_reducible assumption)|assumption)
     obtain ⟨ad133,e133,hx133_0⟩:=Kd.at_string (Kd.R_reads' HO130.out).2.2 0 p133 q133
     cases e133
     have qi133 : (0 < t128.length) = True:=eq_true (by omega)
     (try rw [show ((0 : Int)).toNat = 0 from rfl] at hx133_0);(try rw [Addr.add_zero'] at hx133_0)
     replace p133:=eq_true p133
     replace q133:=eq_true q133
     refine start_ (n:=11) (S:=fun w'=>w'.cell? ad127 = some (.string (rdOf ByteArray.empty t124 0)) ∧ w'.cell? ad133 = some (.string (rdOf ByteArray.empty t128 0))) (ds:=[]) #[false,false,false,false,false,false,false,false,false,false,false] (by kernel_rfl) rfl rfl ⟨hx131_0,hx133_0⟩ (fun hHeld=>?_);refine with_tabW spec_rdParse.tab5 spec_rdParse.bits5 (fun HT_ HW_=>?_)
     generalize w43.drew = w44 at HO_4 HO130 BK123 HB hx131_0 hx133_0 hHeld ⊢
     refine pure_ (i:=0) (N:=some 22) (v:=?_) (a':=?_) #[true,false,false,false,false,false,false,false,false,false,false] rfl rfl (any_of HT_.out (by kernel_rfl)) (fun _ _ _ h=>h) (Or.inl ⟨by rfl,?_⟩) ?_ ?_
     rotate_left
     · intro w'
       go_simp;with_reducible rfl
     rotate_left
     · simp only [Act.put,zA,zB,zC,i64_w,i32_w]
       rfl
     refine pure_ (i:=1) (N:=some 23) (v:=?_) (a':=?_) #[true,true,false,false,false,false,false,false,false,false,false] rfl rfl (any_of HT_.out (by kernel_rfl)) (fun _ _ _ h=>h) (Or.inl ⟨by rfl,?_⟩) ?_ ?_
     rotate_left
     · intro w'
       go_simp;with_reducible rfl
     rotate_left
     · simp only [Act.put,zA,zB,zC,i64_w,i32_w]
       rfl
     refine pure_ (i:=4) (N:=some 26) (v:=?_) (a':=?_) #[true,true,false,false,true,false,false,false,false,false,false] rfl rfl (any_of HT_.out (by kernel_rfl)) (fun _ _ _ h=>h) (Or.inl ⟨by rfl,?_⟩) ?_ ?_
     rotate_left
     · intro w'
       go_simp;with_reducible rfl
     rotate_left
     · simp only [Act.put,zA,zB,zC,i64_w,i32_w]
       rfl
     refine pure_ (i:=5) (N:=some 27) (v:=?_) (a':=?_) #[true,true,false,false,true,true,false,false,false,false,false] rfl rfl (any_of HT_.out (by kernel_rfl)) (fun _ _ _ h=>h) (Or.inl ⟨by rfl,?_⟩) ?_ ?_
     rotate_left
     · intro w'
       go_simp;with_reducible rfl
     rotate_left
     · simp only [Act.put,zA,zB,zC,i64_w,i32_w]
       rfl
     refine take_ (i:=2) (N:=some 24) (v:=?_) (a':=?_) #[true,true,true,false,true,true,false,false,false,false,false] rfl rfl (take_ofW HT_.out HW_.out (by kernel_rfl)) (fun _ _ _ h=>h) (Or.inl ⟨by rfl,?_⟩) hHeld ?_ ?_
     rotate_left
     · rintro w' ⟨s0,s1⟩
       go_simp;with_reducible rfl
     rotate_left
     · simp only [Act.put,zA,zB,zC,i64_w,i32_w]
       rfl
     refine take_ (i:=6) (N:=some 28) (v:=?_) (a':=?_) #[true,true,true,false,true,true,true,false,false,false,false] rfl rfl (take_ofW HT_.out HW_.out (by kernel_rfl)) (fun _ _ _ h=>h) (Or.inl ⟨by rfl,?_⟩) hHeld ?_ ?_
     rotate_left
     · rintro w' ⟨s0,s1⟩
       go_simp;with_reducible rfl
     rotate_left
     · simp only [Act.put,zA,zB,zC,i64_w,i32_w]
       rfl
     refine join_ (σ:=Nat) 1 #[true,true,true,true,true,true,true,true,true,true,false] (fun s_=>[(25,.int .i64 t132),(29,.int .i64 t134),(6,.pointer (some ⟨s_,0,none⟩)),(30,.agg #[.int .i64 t132,.int .i64 t134,.int .i64 0])]) (fun s_ w'=>(w'.cell? ad127 = some (.string (rdOf ByteArray.empty t124 0)) ∧ w'.cell? ad133 = some (.string (rdOf ByteArray.empty t128 0))) ∧ (Kd.R Kd.string 9 w' w.heap.size (fun k_=>some k_ ≠ (.slice (some ad127) t124.length co42 : Value).ownBlock) (.slice (some ad133) t128.length co45) t128) ∧ (Kd.R Kd.string 9 w' w.heap.size (fun k_=>some k_ ≠ (.slice (some ad133) t128.length co45 : Value).ownBlock) (.slice (some ad127) t124.length co42) t124) ∧ (w'.heap[gb123]? = some (.cells #[.int .i64 0,.int .i64 0,.int .i64 0] 26 (0,0))) ∧ (w'.heap[s_]? = some (.cells #[.int .i64 0,.int .i64 0,.int .i64 0] 26 (0,0))) ∧ (w.heap.size ≤ s_) ∧ (w.heap.size ≤ s_) ∧ (gb123 ≠ s_) ∧ (s_ ≠ gb123) ∧ (Below w.heap.size w w')) ?_ ?_
     rotate_left
     · intro hCont
       refine two_ (i:=3) (j:=9) (Ni:=some 25) (Nj:=some 6) #[true,true,true,true,true,true,true,false,false,false,false] #[true,true,true,false,true,true,true,false,false,true,false] rfl rfl rfl rfl (two_of HT_.out (by kernel_rfl)) (by decide) (by decide) (fun K hK=>?_) (fun K hK=>?_)
       rotate_left
       · skip
         refine box_step ?hg (N:=6) ?hd (cs:=#[.int .i64 0,.int .i64 0,.int .i64 0]) (t:=26) ?hr ?_;(case hd=>rfl);(case hg=>rfl);(case hr=>first|(go_simp;done)|(go_simp;rfl))
         intro gb135 hg w46 hbox hb
         have HS0_:=(hb.cell (World.block_lt_of_cell? _ _ (hHeld.1))).trans (hHeld.1)
         have HS1_:=(hb.cell (World.block_lt_of_cell? _ _ (hHeld.2))).trans (hHeld.2)
         have n0_:=zI (Kd.R_below (by (with_reducible repeat (first|apply Kd.R_alloc|apply Kd.R_drewN|apply Kd.R_drew));exact HO_4.out) hb)
         have n1_:=zI (Kd.R_below (by (with_reducible repeat (first|apply Kd.R_alloc|apply Kd.R_drewN|apply Kd.R_drew));exact HO130.out) hb)
         have n2_:=zI (blk_below (g:=gb123) (o:=.cells #[.int .i64 0,.int .i64 0,.int .i64 0] 26 (0,0)) (by (with_reducible repeat (first|refine zD ?_ _|refine zF ?_|refine zE ?_ _));exact BK123.out) hb)
         have n3_:=zI (below_step (by repeat (first|(with_reducible first|exact HB.out|apply zJ|apply zG|apply zH|refine zK ?_ GE123.out)|exact HB.out)) hb)
         have n4_:=zI (hbox)
         have n5_:=zI ((by rw [hg];exact (below_size (by repeat (first|(with_reducible first|exact HB.out|apply zJ|apply zG|apply zH|refine zK ?_ GE123.out)|exact HB.out))) : w.heap.size ≤ gb135))
         have n6_:=zI ((by rw [hg];exact (below_size (by repeat (first|(with_reducible first|exact HB.out|apply zJ|apply zG|apply zH|refine zK ?_ GE123.out)|exact HB.out))) : w.heap.size ≤ gb135))
         have n7_:=zI ((by rw [hg];exact Nat.ne_of_lt (blk_lt (g:=gb123) (o:=.cells #[.int .i64 0,.int .i64 0,.int .i64 0] 26 (0,0)) (by (with_reducible repeat (first|refine zD ?_ _|refine zF ?_|refine zE ?_ _));exact BK123.out)) : gb123 ≠ gb135))
         have n8_:=zI ((by rw [hg];exact Nat.ne_of_gt (blk_lt (g:=gb123) (o:=.cells #[.int .i64 0,.int .i64 0,.int .i64 0] 26 (0,0)) (by (with_reducible repeat (first|refine zD ?_ _|refine zF ?_|refine zE ?_ _));exact BK123.out)) : gb135 ≠ gb123))
         clear HO_4 HO130 BK123 HB;have HO_4:=n0_;have HO130:=n1_;have BK123:=n2_;have HB:=n3_;have BK135:=n4_;have GW135:=n5_;have GE135:=n6_;have NB123_135:=n7_;have NB135_123:=n8_;clear n0_ n1_ n2_ n3_ n4_ n5_ n6_ n7_ n8_ hb hbox hg
         refine hK.out _ _ ⟨HS0_,HS1_⟩ (fun hHeld=>?_)
         clear hK K
         refine norm_ (a':=?_) ?_ ?_
         rotate_left
         · show Act.put _ (some 6) _ = _
           simp only [Act.put,zA,zB,zC,i64_w,i32_w]
           rfl
         refine one_ (i:=3) (N:=some 25) #[true,true,true,true,true,true,true,false,false,true,false] rfl rfl (one_of HT_.out (by kernel_rfl)) (by decide) (fun K hK=>?_)
         refine goes_ Tryd.func25 (by kernel_rfl) rfl #[.string (rdOf ByteArray.empty t124 0)] (by rfl) rfl rfl (by (try simp only [List.map_toArray,List.map_cons,List.map_nil]);first|done|rfl|(simp only [List.length_drop,List.length_take];rfl)) ?_
         with_reducible refine (spec_l1Read.calls kj2 (rdOf ByteArray.empty t124 0) t132 _ A13.out).mono ?_
         rintro e w' ⟨rfl,⟨nd,rfl⟩⟩
         refine ⟨_,rfl,?_⟩
         refine hK.out _ _ ⟨hHeld.1,hHeld.2⟩ (fun hHeld=>?_)
         clear hK K
         refine norm_ (a':=?_) ?_ ?_
         rotate_left
         · show Act.put _ (some 25) _ = _
           simp only [Act.put,zA,zB,zC,i64_w,i32_w]
           rfl
         refine one_ (i:=7) (N:=some 29) #[true,true,true,true,true,true,true,true,false,true,false] rfl rfl (one_of HT_.out (by kernel_rfl)) (by decide) (fun K hK=>?_)
         refine goes_ Tryd.func25 (by kernel_rfl) rfl #[.string (rdOf ByteArray.empty t128 0)] (by rfl) rfl rfl (by (try simp only [List.map_toArray,List.map_cons,List.map_nil]);first|done|rfl|(simp only [List.length_drop,List.length_take];rfl)) ?_
         with_reducible refine (spec_l1Read.calls kj2 (rdOf ByteArray.empty t128 0) t134 _ A15.out).mono ?_
         rintro e w' ⟨rfl,⟨nd,rfl⟩⟩
         refine ⟨_,rfl,?_⟩
         refine hK.out _ _ ⟨hHeld.1,hHeld.2⟩ (fun hHeld=>?_)
         clear hK K
         refine norm_ (a':=?_) ?_ ?_
         rotate_left
         · show Act.put _ (some 29) _ = _
           simp only [Act.put,zA,zB,zC,i64_w,i32_w]
           rfl
         refine pure_ (i:=8) (N:=some 30) (v:=?_) (a':=?_) #[true,true,true,true,true,true,true,true,true,true,false] rfl rfl (any_of HT_.out (by kernel_rfl)) (fun _ _ _ h=>h) (Or.inl ⟨by rfl,?_⟩) ?_ ?_
         rotate_left
         · intro w'
           go_simp;with_reducible rfl
         rotate_left
         · simp only [Act.put,zA,zB,zC,i64_w,i32_w]
           rfl
         exact norm_ (by simp only [putAll,Act.put,zA,zB,zC]) (hCont (gb135) _ ⟨hHeld,(by (with_reducible repeat (first|apply Kd.R_alloc|apply Kd.R_drewN|apply Kd.R_drew));exact Kd.R_mono HO130.out (fun _ hk=>hk.2)),(by (with_reducible repeat (first|apply Kd.R_alloc|apply Kd.R_drewN|apply Kd.R_drew));exact Kd.R_mono HO_4.out (fun _ hk=>hk.2)),(by (with_reducible repeat (first|refine zD ?_ _|refine zF ?_|refine zE ?_ _));exact BK123.out),(by (with_reducible repeat (first|refine zD ?_ _|refine zF ?_|refine zE ?_ _));exact BK135.out),GW135.out,GE135.out,NB123_135.out,NB135_123.out,(by repeat (first|(with_reducible first|exact HB.out|apply zJ|apply zG|apply zH|refine zK ?_ GE123.out|refine zK ?_ GE135.out)|exact HB.out))⟩)
       skip
       refine goes_ Tryd.func25 (by kernel_rfl) rfl #[.string (rdOf ByteArray.empty t124 0)] (by rfl) rfl rfl (by (try simp only [List.map_toArray,List.map_cons,List.map_nil]);first|done|rfl|(simp only [List.length_drop,List.length_take];rfl)) ?_
       with_reducible refine (spec_l1Read.calls kj2 (rdOf ByteArray.empty t124 0) t132 _ A13.out).mono ?_
       rintro e w' ⟨rfl,⟨nd,rfl⟩⟩
       refine ⟨_,rfl,?_⟩
       refine hK.out _ _ ⟨hHeld.1,hHeld.2⟩ (fun hHeld=>?_)
       clear hK K
       refine norm_ (a':=?_) ?_ ?_
       rotate_left
       · show Act.put _ (some 25) _ = _
         simp only [Act.put,zA,zB,zC,i64_w,i32_w]
         rfl
       refine two_ (i:=7) (j:=9) (Ni:=some 29) (Nj:=some 6) #[true,true,true,true,true,true,true,true,false,false,false] #[true,true,true,true,true,true,true,false,false,true,false] rfl rfl rfl rfl (two_of HT_.out (by kernel_rfl)) (by decide) (by decide) (fun K hK=>?_) (fun K hK=>?_)
       · skip
         refine goes_ Tryd.func25 (by kernel_rfl) rfl #[.string (rdOf ByteArray.empty t128 0)] (by rfl) rfl rfl (by (try simp only [List.map_toArray,List.map_cons,List.map_nil]);first|done|rfl|(simp only [List.length_drop,List.length_take];rfl)) ?_
         with_reducible refine (spec_l1Read.calls kj2 (rdOf ByteArray.empty t128 0) t134 _ A15.out).mono ?_
         rintro e w' ⟨rfl,⟨nd,rfl⟩⟩
         refine ⟨_,rfl,?_⟩
         refine hK.out _ _ ⟨hHeld.1,hHeld.2⟩ (fun hHeld=>?_)
         clear hK K
         refine norm_ (a':=?_) ?_ ?_
         rotate_left
         · show Act.put _ (some 29) _ = _
           simp only [Act.put,zA,zB,zC,i64_w,i32_w]
           rfl
         refine pure_ (i:=8) (N:=some 30) (v:=?_) (a':=?_) #[true,true,true,true,true,true,true,true,true,false,false] rfl rfl (any_of HT_.out (by kernel_rfl)) (fun _ _ _ h=>h) (Or.inl ⟨by rfl,?_⟩) ?_ ?_
         rotate_left
         · intro w'
           go_simp;with_reducible rfl
         rotate_left
         · simp only [Act.put,zA,zB,zC,i64_w,i32_w]
           rfl
         refine one_ (i:=9) (N:=some 6) #[true,true,true,true,true,true,true,true,true,true,false] rfl rfl (one_of HT_.out (by kernel_rfl)) (by decide) (fun K hK=>?_)
         refine box_step ?hg (N:=6) ?hd (cs:=#[.int .i64 0,.int .i64 0,.int .i64 0]) (t:=26) ?hr ?_;(case hd=>rfl);(case hg=>rfl);(case hr=>first|(go_simp;done)|(go_simp;rfl))
         intro gb135 hg w46 hbox hb
         have HS0_:=(hb.cell (World.block_lt_of_cell? _ _ (hHeld.1))).trans (hHeld.1)
         have HS1_:=(hb.cell (World.block_lt_of_cell? _ _ (hHeld.2))).trans (hHeld.2)
         have n0_:=zI (Kd.R_below (by (with_reducible repeat (first|apply Kd.R_alloc|apply Kd.R_drewN|apply Kd.R_drew));exact HO_4.out) hb)
         have n1_:=zI (Kd.R_below (by (with_reducible repeat (first|apply Kd.R_alloc|apply Kd.R_drewN|apply Kd.R_drew));exact HO130.out) hb)
         have n2_:=zI (blk_below (g:=gb123) (o:=.cells #[.int .i64 0,.int .i64 0,.int .i64 0] 26 (0,0)) (by (with_reducible repeat (first|refine zD ?_ _|refine zF ?_|refine zE ?_ _));exact BK123.out) hb)
         have n3_:=zI (below_step (by repeat (first|(with_reducible first|exact HB.out|apply zJ|apply zG|apply zH|refine zK ?_ GE123.out)|exact HB.out)) hb)
         have n4_:=zI (hbox)
         have n5_:=zI ((by rw [hg];exact (below_size (by repeat (first|(with_reducible first|exact HB.out|apply zJ|apply zG|apply zH|refine zK ?_ GE123.out)|exact HB.out))) : w.heap.size ≤ gb135))
         have n6_:=zI ((by rw [hg];exact (below_size (by repeat (first|(with_reducible first|exact HB.out|apply zJ|apply zG|apply zH|refine zK ?_ GE123.out)|exact HB.out))) : w.heap.size ≤ gb135))
         have n7_:=zI ((by rw [hg];exact Nat.ne_of_lt (blk_lt (g:=gb123) (o:=.cells #[.int .i64 0,.int .i64 0,.int .i64 0] 26 (0,0)) (by (with_reducible repeat (first|refine zD ?_ _|refine zF ?_|refine zE ?_ _));exact BK123.out)) : gb123 ≠ gb135))
         have n8_:=zI ((by rw [hg];exact Nat.ne_of_gt (blk_lt (g:=gb123) (o:=.cells #[.int .i64 0,.int .i64 0,.int .i64 0] 26 (0,0)) (by (with_reducible repeat (first|refine zD ?_ _|refine zF ?_|refine zE ?_ _));exact BK123.out)) : gb135 ≠ gb123))
         clear HO_4 HO130 BK123 HB;have HO_4:=n0_;have HO130:=n1_;have BK123:=n2_;have HB:=n3_;have BK135:=n4_;have GW135:=n5_;have GE135:=n6_;have NB123_135:=n7_;have NB135_123:=n8_;clear n0_ n1_ n2_ n3_ n4_ n5_ n6_ n7_ n8_ hb hbox hg
         refine hK.out _ _ ⟨HS0_,HS1_⟩ (fun hHeld=>?_)
         clear hK K
         refine norm_ (a':=?_) ?_ ?_
         rotate_left
         · show Act.put _ (some 6) _ = _
           simp only [Act.put,zA,zB,zC,i64_w,i32_w]
           rfl
         exact norm_ (by simp only [putAll,Act.put,zA,zB,zC]) (hCont (gb135) _ ⟨hHeld,(by (with_reducible repeat (first|apply Kd.R_alloc|apply Kd.R_drewN|apply Kd.R_drew));exact Kd.R_mono HO130.out (fun _ hk=>hk.2)),(by (with_reducible repeat (first|apply Kd.R_alloc|apply Kd.R_drewN|apply Kd.R_drew));exact Kd.R_mono HO_4.out (fun _ hk=>hk.2)),(by (with_reducible repeat (first|refine zD ?_ _|refine zF ?_|refine zE ?_ _));exact BK123.out),(by (with_reducible repeat (first|refine zD ?_ _|refine zF ?_|refine zE ?_ _));exact BK135.out),GW135.out,GE135.out,NB123_135.out,NB135_123.out,(by repeat (first|(with_reducible first|exact HB.out|apply zJ|apply zG|apply zH|refine zK ?_ GE123.out|refine zK ?_ GE135.out)|exact HB.out))⟩)
       skip
       refine box_step ?hg (N:=6) ?hd (cs:=#[.int .i64 0,.int .i64 0,.int .i64 0]) (t:=26) ?hr ?_;(case hd=>rfl);(case hg=>rfl);(case hr=>first|(go_simp;done)|(go_simp;rfl))
       intro gb135 hg w46 hbox hb
       have HS0_:=(hb.cell (World.block_lt_of_cell? _ _ (hHeld.1))).trans (hHeld.1)
       have HS1_:=(hb.cell (World.block_lt_of_cell? _ _ (hHeld.2))).trans (hHeld.2)
       have n0_:=zI (Kd.R_below (by (with_reducible repeat (first|apply Kd.R_alloc|apply Kd.R_drewN|apply Kd.R_drew));exact HO_4.out) hb)
       have n1_:=zI (Kd.R_below (by (with_reducible repeat (first|apply Kd.R_alloc|apply Kd.R_drewN|apply Kd.R_drew));exact HO130.out) hb)
       have n2_:=zI (blk_below (g:=gb123) (o:=.cells #[.int .i64 0,.int .i64 0,.int .i64 0] 26 (0,0)) (by (with_reducible repeat (first|refine zD ?_ _|refine zF ?_|refine zE ?_ _));exact BK123.out) hb)
       have n3_:=zI (below_step (by repeat (first|(with_reducible first|exact HB.out|apply zJ|apply zG|apply zH|refine zK ?_ GE123.out)|exact HB.out)) hb)
       have n4_:=zI (hbox)
       have n5_:=zI ((by rw [hg];exact (below_size (by repeat (first|(with_reducible first|exact HB.out|apply zJ|apply zG|apply zH|refine zK ?_ GE123.out)|exact HB.out))) : w.heap.size ≤ gb135))
       have n6_:=zI ((by rw [hg];exact (below_size (by repeat (first|(with_reducible first|exact HB.out|apply zJ|apply zG|apply zH|refine zK ?_ GE123.out)|exact HB.out))) : w.heap.size ≤ gb135))
       have n7_:=zI ((by rw [hg];exact Nat.ne_of_lt (blk_lt (g:=gb123) (o:=.cells #[.int .i64 0,.int .i64 0,.int .i64 0] 26 (0,0)) (by (with_reducible repeat (first|refine zD ?_ _|refine zF ?_|refine zE ?_ _));exact BK123.out)) : gb123 ≠ gb135))
       have n8_:=zI ((by rw [hg];exact Nat.ne_of_gt (blk_lt (g:=gb123) (o:=.cells #[.int .i64 0,.int .i64 0,.int .i64 0] 26 (0,0)) (by (with_reducible repeat (first|refine zD ?_ _|refine zF ?_|refine zE ?_ _));exact BK123.out)) : gb135 ≠ gb123))
       clear HO_4 HO130 BK123 HB;have HO_4:=n0_;have HO130:=n1_;have BK123:=n2_;have HB:=n3_;have BK135:=n4_;have GW135:=n5_;have GE135:=n6_;have NB123_135:=n7_;have NB135_123:=n8_;clear n0_ n1_ n2_ n3_ n4_ n5_ n6_ n7_ n8_ hb hbox hg
       refine hK.out _ _ ⟨HS0_,HS1_⟩ (fun hHeld=>?_)
       clear hK K
       refine norm_ (a':=?_) ?_ ?_
       rotate_left
       · show Act.put _ (some 6) _ = _
         simp only [Act.put,zA,zB,zC,i64_w,i32_w]
         rfl
       refine one_ (i:=7) (N:=some 29) #[true,true,true,true,true,true,true,true,false,true,false] rfl rfl (one_of HT_.out (by kernel_rfl)) (by decide) (fun K hK=>?_)
       refine goes_ Tryd.func25 (by kernel_rfl) rfl #[.string (rdOf ByteArray.empty t128 0)] (by rfl) rfl rfl (by (try simp only [List.map_toArray,List.map_cons,List.map_nil]);first|done|rfl|(simp only [List.length_drop,List.length_take];rfl)) ?_
       with_reducible refine (spec_l1Read.calls kj2 (rdOf ByteArray.empty t128 0) t134 _ A15.out).mono ?_
       rintro e w' ⟨rfl,⟨nd,rfl⟩⟩
       refine ⟨_,rfl,?_⟩
       refine hK.out _ _ ⟨hHeld.1,hHeld.2⟩ (fun hHeld=>?_)
       clear hK K
       refine norm_ (a':=?_) ?_ ?_
       rotate_left
       · show Act.put _ (some 29) _ = _
         simp only [Act.put,zA,zB,zC,i64_w,i32_w]
         rfl
       refine pure_ (i:=8) (N:=some 30) (v:=?_) (a':=?_) #[true,true,true,true,true,true,true,true,true,true,false] rfl rfl (any_of HT_.out (by kernel_rfl)) (fun _ _ _ h=>h) (Or.inl ⟨by rfl,?_⟩) ?_ ?_
       rotate_left
       · intro w'
         go_simp;with_reducible rfl
       rotate_left
       · simp only [Act.put,zA,zB,zC,i64_w,i32_w]
         rfl
       exact norm_ (by simp only [putAll,Act.put,zA,zB,zC]) (hCont (gb135) _ ⟨hHeld,(by (with_reducible repeat (first|apply Kd.R_alloc|apply Kd.R_drewN|apply Kd.R_drew));exact Kd.R_mono HO130.out (fun _ hk=>hk.2)),(by (with_reducible repeat (first|apply Kd.R_alloc|apply Kd.R_drewN|apply Kd.R_drew));exact Kd.R_mono HO_4.out (fun _ hk=>hk.2)),(by (with_reducible repeat (first|refine zD ?_ _|refine zF ?_|refine zE ?_ _));exact BK123.out),(by (with_reducible repeat (first|refine zD ?_ _|refine zF ?_|refine zE ?_ _));exact BK135.out),GW135.out,GE135.out,NB123_135.out,NB135_123.out,(by repeat (first|(with_reducible first|exact HB.out|apply zJ|apply zG|apply zH|refine zK ?_ GE123.out|refine zK ?_ GE135.out)|exact HB.out))⟩)
     rintro gb135 w47 ⟨hS_,h0_,h1_,h2_,h3_,h4_,h5_,h6_,h7_,h8_⟩
     have n0_ : Aside0 (Kd.R Kd.string 9 w47 w.heap.size (fun k_=>some k_ ≠ (.slice (some ad127) t124.length co42 : Value).ownBlock) (.slice (some ad133) t128.length co45) t128):=⟨h0_⟩
     have n1_ : Aside0 (Kd.R Kd.string 9 w47 w.heap.size (fun k_=>some k_ ≠ (.slice (some ad133) t128.length co45 : Value).ownBlock) (.slice (some ad127) t124.length co42) t124):=⟨h1_⟩
     have n2_ : Aside0 (w47.heap[gb123]? = some (.cells #[.int .i64 0,.int .i64 0,.int .i64 0] 26 (0,0))):=⟨h2_⟩
     have n3_ : Aside0 (w47.heap[gb135]? = some (.cells #[.int .i64 0,.int .i64 0,.int .i64 0] 26 (0,0))):=⟨h3_⟩
     have n4_ : Aside0 (w.heap.size ≤ gb135):=⟨h4_⟩
     have n5_ : Aside0 (w.heap.size ≤ gb135):=⟨h5_⟩
     have n6_ : Aside0 (gb123 ≠ gb135):=⟨h6_⟩
     have n7_ : Aside0 (gb135 ≠ gb123):=⟨h7_⟩
     have n8_ : Aside0 (Below w.heap.size w w47):=⟨h8_⟩
     clear HO_4 HO130 BK123 HB h0_ h1_ h2_ h3_ h4_ h5_ h6_ h7_ h8_;have HO130:=n0_;have HO_4:=n1_;have BK123:=n2_;have BK135:=n3_;have GW135:=n4_;have GE135:=n5_;have NB123_135:=n6_;have NB135_123:=n7_;have HB:=n8_;clear n0_ n1_ n2_ n3_ n4_ n5_ n6_ n7_ n8_
     have hHeld : w47.cell? ad127 = some (.string (rdOf ByteArray.empty t124 0)) ∧ w47.cell? ad133 = some (.string (rdOf ByteArray.empty t128 0)):=hS_
     refine norm_ (a':=?_) ?_ ?_
     rotate_left
     · simp only [putAll,Act.put,zA,zB,zC]
       rfl
     refine one_ (i:=10) (N:=none) #[true,true,true,true,true,true,true,true,true,true,true] rfl rfl (one_of HT_.out (by kernel_rfl)) (by decide) (fun K hK=>?_)
     have hs48 : w47.cell? ⟨gb135,0,none⟩ = some (.int .i64 0):=(blk_cell BK135.out 0).trans rfl
     have hfs48:=blk_frozen BK135.out 0
     have hns48_0:=NB123_135.out;have hms48_0:=NB135_123.out
     have hs49 : w47.cell? ⟨gb135,1,none⟩ = some (.int .i64 0):=(blk_cell BK135.out 1).trans rfl
     have hfs49:=blk_frozen BK135.out 1
     have hns49_0:=NB123_135.out;have hms49_0:=NB135_123.out
     have hs50 : w47.cell? ⟨gb135,2,none⟩ = some (.int .i64 0):=(blk_cell BK135.out 2).trans rfl
     have hfs50:=blk_frozen BK135.out 2
     have hns50_0:=NB123_135.out;have hms50_0:=NB135_123.out
     refine skip_ (w1:=?_) (by rfl) rfl ?_ ?_
     rotate_left
     · go_simp
       rfl
     refine hK.out _ _ ⟨((cell_far (p:=⟨gb135,_,none⟩) (by first|exact Kd.own_blk (Kd.R_ne HO_4.out BK135.out (by decide))|(rw [add_block];exact Kd.own_blk (Kd.R_ne HO_4.out BK135.out (by decide)))|(show (Addr.add _ _).block ≠ _;rw [add_block];exact Kd.own_blk (Kd.R_ne HO_4.out BK135.out (by decide)))|(dsimp only;exact Kd.own_blk (Kd.R_ne HO_4.out BK135.out (by decide)))) _).trans (((cell_far (p:=⟨gb135,_,none⟩) (by first|exact Kd.own_blk (Kd.R_ne HO_4.out BK135.out (by decide))|(rw [add_block];exact Kd.own_blk (Kd.R_ne HO_4.out BK135.out (by decide)))|(show (Addr.add _ _).block ≠ _;rw [add_block];exact Kd.own_blk (Kd.R_ne HO_4.out BK135.out (by decide)))|(dsimp only;exact Kd.own_blk (Kd.R_ne HO_4.out BK135.out (by decide)))) _).trans (((cell_far (p:=⟨gb135,_,none⟩) (by first|exact Kd.own_blk (Kd.R_ne HO_4.out BK135.out (by decide))|(rw [add_block];exact Kd.own_blk (Kd.R_ne HO_4.out BK135.out (by decide)))|(show (Addr.add _ _).block ≠ _;rw [add_block];exact Kd.own_blk (Kd.R_ne HO_4.out BK135.out (by decide)))|(dsimp only;exact Kd.own_blk (Kd.R_ne HO_4.out BK135.out (by decide)))) _).trans (hHeld.1)))))),((cell_far (p:=⟨gb135,_,none⟩) (by first|exact Kd.own_blk (Kd.R_ne HO130.out BK135.out (by decide))|(rw [add_block];exact Kd.own_blk (Kd.R_ne HO130.out BK135.out (by decide)))|(show (Addr.add _ _).block ≠ _;rw [add_block];exact Kd.own_blk (Kd.R_ne HO130.out BK135.out (by decide)))|(dsimp only;exact Kd.own_blk (Kd.R_ne HO130.out BK135.out (by decide)))) _).trans (((cell_far (p:=⟨gb135,_,none⟩) (by first|exact Kd.own_blk (Kd.R_ne HO130.out BK135.out (by decide))|(rw [add_block];exact Kd.own_blk (Kd.R_ne HO130.out BK135.out (by decide)))|(show (Addr.add _ _).block ≠ _;rw [add_block];exact Kd.own_blk (Kd.R_ne HO130.out BK135.out (by decide)))|(dsimp only;exact Kd.own_blk (Kd.R_ne HO130.out BK135.out (by decide)))) _).trans (((cell_far (p:=⟨gb135,_,none⟩) (by first|exact Kd.own_blk (Kd.R_ne HO130.out BK135.out (by decide))|(rw [add_block];exact Kd.own_blk (Kd.R_ne HO130.out BK135.out (by decide)))|(show (Addr.add _ _).block ≠ _;rw [add_block];exact Kd.own_blk (Kd.R_ne HO130.out BK135.out (by decide)))|(dsimp only;exact Kd.own_blk (Kd.R_ne HO130.out BK135.out (by decide)))) _).trans (hHeld.2))))))⟩ (fun hHeld=>?_)
     clear hK K
     refine done_ (done_of HT_.out (by kernel_rfl)) ?_
     have p136 : 0 ≤ (1 : Int):=(by omega)
     have q136 : 1 < (t128.length : Int):=of_decide_eq_true (by first|(with_reducible assumption)|assumption)
     obtain ⟨ad136,e136,hx136_0⟩:=Kd.at_string (Kd.R_reads' HO130.out).2.2 1 p136 q136
     obtain rfl : ad133 = ad136:=(by injection e136)
     (try simp only [show (1 : Int).toNat = 1 from rfl,Nat.reduceMul,Nat.reduceEqDiff,Go.Addr.add,↓reduceIte] at hx136_0)
     have qi136 : (1 < t128.length) = True:=eq_true (by omega)
     (try rw [show ((1 : Int)).toNat = 1 from rfl] at hx136_0)
     have hn136_0 : ad133.block ≠ gb135:=Kd.own_blk (Kd.R_ne HO130.out BK135.out (by decide))
     have hn136_1 : ad133.block ≠ gb135:=Kd.own_blk (Kd.R_ne HO130.out BK135.out (by decide))
     have hn136_2 : ad133.block ≠ gb135:=Kd.own_blk (Kd.R_ne HO130.out BK135.out (by decide))
     replace hx136_0:=(cell_far (p:=⟨gb135,0,none⟩) (by first|(rw [add_block];exact hn136_0)|(show (Addr.add _ _).block ≠ _;rw [add_block];exact hn136_0)|exact hn136_0) (.int .i64 t132)).trans hx136_0
     replace hx136_0:=(cell_far (p:=⟨gb135,1,none⟩) (by first|(rw [add_block];exact hn136_1)|(show (Addr.add _ _).block ≠ _;rw [add_block];exact hn136_1)|exact hn136_1) (.int .i64 t134)).trans hx136_0
     replace hx136_0:=(cell_far (p:=⟨gb135,2,none⟩) (by first|(rw [add_block];exact hn136_2)|(show (Addr.add _ _).block ≠ _;rw [add_block];exact hn136_2)|exact hn136_2) (.int .i64 0)).trans hx136_0
     clear hn136_0 hn136_1 hn136_2
     replace p136:=eq_true p136
     replace q136:=eq_true q136
     try go_wp2_with (first|((with_reducible refine gate_callee (f:=25) rfl ?_);refine goesL_ (some 37) rfl rfl Tryd.func25 (by kernel_rfl) rfl #[.string (rdOf ByteArray.empty t128 1)] rfl (by (try simp only [List.map_toArray,List.map_cons,List.map_nil]);first|done|rfl|(simp only [List.length_drop,List.length_take];rfl)) ?_;(with_reducible refine (spec_l1Read.calls kj2 (rdOf ByteArray.empty t128 1) t137 _ A18.out).mono ?_);rintro e w' ⟨rfl,⟨nd,rfl⟩⟩;refine ⟨_,rfl,?_⟩;have n0_ : Aside0 (Kd.R Kd.string 9 (((w47.setCell ⟨gb135,0,none⟩ (.int .i64 t132)).setCell ⟨gb135,1,none⟩ (.int .i64 t134)).setCell ⟨gb135,2,none⟩ (.int .i64 0)) w.heap.size (fun k_=>some k_ ≠ (.slice (some ad133) t128.length co45 : Value).ownBlock) (.slice (some ad127) t124.length co42) t124):=⟨by (with_reducible repeat (first|apply Kd.R_alloc|apply Kd.R_drewN|apply Kd.R_drew));exact Kd.R_mono (Kd.R_far (p:=⟨gb135,2,none⟩) (Kd.R_far (p:=⟨gb135,1,none⟩) (Kd.R_far (p:=⟨gb135,0,none⟩) (Kd.R_types HO_4.out BK135.out (by decide)) (fun _ hk=>hk.2) (.int .i64 t132)) (fun _ hk=>hk.2) (.int .i64 t134)) (fun _ hk=>hk.2) (.int .i64 0)) (fun _ hk=>hk.1)⟩;have n1_ : Aside0 (Kd.R Kd.string 9 (((w47.setCell ⟨gb135,0,none⟩ (.int .i64 t132)).setCell ⟨gb135,1,none⟩ (.int .i64 t134)).setCell ⟨gb135,2,none⟩ (.int .i64 0)) w.heap.size (fun k_=>some k_ ≠ (.slice (some ad127) t124.length co42 : Value).ownBlock) (.slice (some ad133) t128.length co45) t128):=⟨by (with_reducible repeat (first|apply Kd.R_alloc|apply Kd.R_drewN|apply Kd.R_drew));exact Kd.R_mono (Kd.R_far (p:=⟨gb135,2,none⟩) (Kd.R_far (p:=⟨gb135,1,none⟩) (Kd.R_far (p:=⟨gb135,0,none⟩) (Kd.R_types HO130.out BK135.out (by decide)) (fun _ hk=>hk.2) (.int .i64 t132)) (fun _ hk=>hk.2) (.int .i64 t134)) (fun _ hk=>hk.2) (.int .i64 0)) (fun _ hk=>hk.1)⟩;have n2_ : Aside0 ((((w47.setCell ⟨gb135,0,none⟩ (.int .i64 t132)).setCell ⟨gb135,1,none⟩ (.int .i64 t134)).setCell ⟨gb135,2,none⟩ (.int .i64 0)).heap[gb123]? = some (.cells #[.int .i64 0,.int .i64 0,.int .i64 0] 26 (0,0))):=⟨by (with_reducible repeat (first|refine zD ?_ _|refine zF ?_|refine zE ?_ _));refine blk_far ?_ NB123_135.out _;(with_reducible repeat (first|refine zD ?_ _|refine zF ?_|refine zE ?_ _));refine blk_far ?_ NB123_135.out _;(with_reducible repeat (first|refine zD ?_ _|refine zF ?_|refine zE ?_ _));refine blk_far ?_ NB123_135.out _;(with_reducible repeat (first|refine zD ?_ _|refine zF ?_|refine zE ?_ _));exact BK123.out⟩;have n3_ : Aside0 ((((w47.setCell ⟨gb135,0,none⟩ (.int .i64 t132)).setCell ⟨gb135,1,none⟩ (.int .i64 t134)).setCell ⟨gb135,2,none⟩ (.int .i64 0)).heap[gb135]? = some (.cells #[.int .i64 t132,.int .i64 t134,.int .i64 0] 26 (0,0))):=⟨by (with_reducible repeat (first|refine zD ?_ _|refine zF ?_|refine zE ?_ _));refine blk_put (cs:=#[.int .i64 t132,.int .i64 t134,.int .i64 0]) ?_ 2 _ rfl;(with_reducible repeat (first|refine zD ?_ _|refine zF ?_|refine zE ?_ _));refine blk_put (cs:=#[.int .i64 t132,.int .i64 0,.int .i64 0]) ?_ 1 _ rfl;(with_reducible repeat (first|refine zD ?_ _|refine zF ?_|refine zE ?_ _));refine blk_put (cs:=#[.int .i64 0,.int .i64 0,.int .i64 0]) ?_ 0 _ rfl;(with_reducible repeat (first|refine zD ?_ _|refine zF ?_|refine zE ?_ _));exact BK135.out⟩;have n4_ : Aside0 (Below w.heap.size w (((w47.setCell ⟨gb135,0,none⟩ (.int .i64 t132)).setCell ⟨gb135,1,none⟩ (.int .i64 t134)).setCell ⟨gb135,2,none⟩ (.int .i64 0))):=⟨by repeat (first|(with_reducible first|exact HB.out|apply zJ|apply zG|apply zH|refine zK ?_ GE123.out|refine zK ?_ GE135.out)|exact HB.out)⟩;(try clear HO_4);(try clear HO130);(try clear BK123);(try clear BK135);(try clear HB);generalize (((w47.setCell ⟨gb135,0,none⟩ (.int .i64 t132)).setCell ⟨gb135,1,none⟩ (.int .i64 t134)).setCell ⟨gb135,2,none⟩ (.int .i64 0)) = w51 at n0_ n1_ n2_ n3_ n4_ ⊢;have HO_4:=n0_;have HO130:=n1_;have BK123:=n2_;have BK135:=n3_;have HB:=n4_;clear n0_ n1_ n2_ n3_ n4_;(try (rw [drewN_self w51];generalize hq_ : World.drewN w51 _ = w51;have n0_ : Aside0 (Kd.R Kd.string 9 w51 w.heap.size (fun k_=>some k_ ≠ (.slice (some ad127) t124.length co42 : Value).ownBlock) (.slice (some ad133) t128.length co45) t128):=⟨by rw [← hq_];exact (by (with_reducible repeat (first|apply Kd.R_alloc|apply Kd.R_drewN|apply Kd.R_drew));exact HO130.out)⟩;have n1_ : Aside0 (Kd.R Kd.string 9 w51 w.heap.size (fun k_=>some k_ ≠ (.slice (some ad133) t128.length co45 : Value).ownBlock) (.slice (some ad127) t124.length co42) t124):=⟨by rw [← hq_];exact (by (with_reducible repeat (first|apply Kd.R_alloc|apply Kd.R_drewN|apply Kd.R_drew));exact HO_4.out)⟩;have n2_ : Aside0 (w51.heap[gb123]? = some (.cells #[.int .i64 0,.int .i64 0,.int .i64 0] 26 (0,0))):=⟨by rw [← hq_];exact (by (with_reducible repeat (first|refine zD ?_ _|refine zF ?_|refine zE ?_ _));exact BK123.out)⟩;have n3_ : Aside0 (w51.heap[gb135]? = some (.cells #[.int .i64 t132,.int .i64 t134,.int .i64 0] 26 (0,0))):=⟨by rw [← hq_];exact (by (with_reducible repeat (first|refine zD ?_ _|refine zF ?_|refine zE ?_ _));exact BK135.out)⟩;have n4_ : Aside0 (Below w.heap.size w w51):=⟨by rw [← hq_];exact (by repeat (first|(with_reducible first|exact HB.out|apply zJ|apply zG|apply zH|refine zK ?_ GE123.out|refine zK ?_ GE135.out)|exact HB.out))⟩;clear HO130 HO_4 BK123 BK135 HB hq_;have HO130:=n0_;have HO_4:=n1_;have BK123:=n2_;have BK135:=n3_;have HB:=n4_;clear n0_ n1_ n2_ n3_ n4_));have hnb52:=NB135_123.out;have hnc52:=NB123_135.out;have hcz53_0 : w51.cell? ⟨gb135,0,none⟩ = some (.int .i64 t132):=(blk_cell BK135.out 0).trans rfl;have hcz53_1 : w51.cell? ⟨gb135,1,none⟩ = some (.int .i64 t134):=(blk_cell BK135.out 1).trans rfl;have hcz53_2 : w51.cell? ⟨gb135,2,none⟩ = some (.int .i64 0):=(blk_cell BK135.out 2).trans rfl;have hfz53_0:=blk_frozen BK135.out 0;have hfz53_1:=blk_frozen BK135.out 1;have hfz53_2:=blk_frozen BK135.out 2))
     have n0_ : Aside0 (Kd.R Kd.string 9 (w51.setCell ⟨gb135,2,none⟩ (.int .i64 t137)) w.heap.size (fun k_=>some k_ ≠ (.slice (some ad133) t128.length co45 : Value).ownBlock) (.slice (some ad127) t124.length co42) t124):=⟨by (with_reducible repeat (first|apply Kd.R_alloc|apply Kd.R_drewN|apply Kd.R_drew));exact Kd.R_mono (Kd.R_far (p:=⟨gb135,2,none⟩) (Kd.R_types HO_4.out BK135.out (by decide)) (fun _ hk=>hk.2) (.int .i64 t137)) (fun _ hk=>hk.1)⟩
     have n1_ : Aside0 (Kd.R Kd.string 9 (w51.setCell ⟨gb135,2,none⟩ (.int .i64 t137)) w.heap.size (fun k_=>some k_ ≠ (.slice (some ad127) t124.length co42 : Value).ownBlock) (.slice (some ad133) t128.length co45) t128):=⟨by (with_reducible repeat (first|apply Kd.R_alloc|apply Kd.R_drewN|apply Kd.R_drew));exact Kd.R_mono (Kd.R_far (p:=⟨gb135,2,none⟩) (Kd.R_types HO130.out BK135.out (by decide)) (fun _ hk=>hk.2) (.int .i64 t137)) (fun _ hk=>hk.1)⟩
     have n2_ : Aside0 ((w51.setCell ⟨gb135,2,none⟩ (.int .i64 t137)).heap[gb123]? = some (.cells #[.int .i64 0,.int .i64 0,.int .i64 0] 26 (0,0))):=⟨by (with_reducible repeat (first|refine zD ?_ _|refine zF ?_|refine zE ?_ _));refine blk_far ?_ NB123_135.out _;(with_reducible repeat (first|refine zD ?_ _|refine zF ?_|refine zE ?_ _));exact BK123.out⟩
     have n3_ : Aside0 ((w51.setCell ⟨gb135,2,none⟩ (.int .i64 t137)).heap[gb135]? = some (.cells #[.int .i64 t132,.int .i64 t134,.int .i64 t137] 26 (0,0))):=⟨by (with_reducible repeat (first|refine zD ?_ _|refine zF ?_|refine zE ?_ _));refine blk_put (cs:=#[.int .i64 t132,.int .i64 t134,.int .i64 0]) ?_ 2 _ rfl;(with_reducible repeat (first|refine zD ?_ _|refine zF ?_|refine zE ?_ _));exact BK135.out⟩
     have n4_ : Aside0 (Below w.heap.size w (w51.setCell ⟨gb135,2,none⟩ (.int .i64 t137))):=⟨by repeat (first|(with_reducible first|exact HB.out|apply zJ|apply zG|apply zH|refine zK ?_ GE123.out|refine zK ?_ GE135.out)|exact HB.out)⟩
     (try clear HO_4);(try clear HO130);(try clear BK123);(try clear BK135);(try clear HB)
     generalize (w51.setCell ⟨gb135,2,none⟩ (.int .i64 t137)) = w54 at n0_ n1_ n2_ n3_ n4_ ⊢
     have HO_4:=n0_;have HO130:=n1_;have BK123:=n2_;have BK135:=n3_;have HB:=n4_;clear n0_ n1_ n2_ n3_ n4_
     have n0_:=zI (Kd.R_drew HO_4.out)
     have n1_:=zI (Kd.R_drew HO130.out)
     have n2_:=zI (zF BK123.out)
     have n3_:=zI (zF BK135.out)
     have n4_:=zI (zH HB.out)
     clear HO_4 HO130 BK123 BK135 HB;have HO_4:=n0_;have HO130:=n1_;have BK123:=n2_;have BK135:=n3_;have HB:=n4_;clear n0_ n1_ n2_ n3_ n4_
     refine start_ (n:=16) (S:=fun w'=>w'.cell? ⟨gb135,0,none⟩ = some (.int .i64 t132) ∧ w'.cell? ⟨gb135,1,none⟩ = some (.int .i64 t134) ∧ w'.cell? ⟨gb135,2,none⟩ = some (.int .i64 t137)) (ds:=[]) #[false,false,false,false,false,false,false,false,false,false,false,false,false,false,false,false] (by kernel_rfl) rfl rfl ⟨(blk_cell BK135.out 0).trans rfl,(blk_cell BK135.out 1).trans rfl,(blk_cell BK135.out 2).trans rfl⟩ (fun hHeld=>?_);refine with_tabW spec_rdParse.tab8 spec_rdParse.bits8 (fun HT_ HW_=>?_)
     generalize w54.drew = w55 at HO_4 HO130 BK123 BK135 HB hHeld ⊢
     refine pure_ (i:=1) (N:=some 40) (v:=?_) (a':=?_) #[false,true,false,false,false,false,false,false,false,false,false,false,false,false,false,false] rfl rfl (any_of HT_.out (by kernel_rfl)) (fun _ _ _ h=>h) (Or.inl ⟨by rfl,?_⟩) ?_ ?_
     rotate_left
     · intro w'
       go_simp;with_reducible rfl
     rotate_left
     · simp only [Act.put,zA,zB,zC,i64_w,i32_w]
       rfl
     refine pure_ (i:=2) (N:=some 41) (v:=?_) (a':=?_) #[false,true,true,false,false,false,false,false,false,false,false,false,false,false,false,false] rfl rfl (any_of HT_.out (by kernel_rfl)) (fun _ _ _ h=>h) (Or.inl ⟨by rfl,?_⟩) ?_ ?_
     rotate_left
     · intro w'
       go_simp;with_reducible rfl
     rotate_left
     · simp only [Act.put,zA,zB,zC,i64_w,i32_w]
       rfl
     refine pure_ (i:=3) (N:=some 42) (v:=?_) (a':=?_) #[false,true,true,true,false,false,false,false,false,false,false,false,false,false,false,false] rfl rfl (any_of HT_.out (by kernel_rfl)) (fun _ _ _ h=>h) (Or.inl ⟨by rfl,?_⟩) ?_ ?_
     rotate_left
     · intro w'
       go_simp;with_reducible rfl
     rotate_left
     · simp only [Act.put,zA,zB,zC,i64_w,i32_w]
       rfl
     refine pure_ (i:=4) (N:=some 43) (v:=?_) (a':=?_) #[false,true,true,true,true,false,false,false,false,false,false,false,false,false,false,false] rfl rfl (any_of HT_.out (by kernel_rfl)) (fun _ _ _ h=>h) (Or.inl ⟨by rfl,?_⟩) ?_ ?_
     rotate_left
     · intro w'
       go_simp;with_reducible rfl
     rotate_left
     · simp only [Act.put,zA,zB,zC,i64_w,i32_w]
       rfl
     refine take_ (i:=0) (N:=some 39) (v:=?_) (a':=?_) #[true,true,true,true,true,false,false,false,false,false,false,false,false,false,false,false] rfl rfl (take_ofW HT_.out HW_.out (by kernel_rfl)) (fun _ _ _ h=>h) (Or.inl ⟨by rfl,?_⟩) hHeld ?_ ?_
     rotate_left
     · rintro w' ⟨s0,s1,s2⟩
       go_simp;with_reducible rfl
     rotate_left
     · simp only [Act.put,zA,zB,zC,i64_w,i32_w]
       rfl
     refine take_ (i:=5) (N:=some 44) (v:=?_) (a':=?_) #[true,true,true,true,true,true,false,false,false,false,false,false,false,false,false,false] rfl rfl (take_ofW HT_.out HW_.out (by kernel_rfl)) (fun _ _ _ h=>h) (Or.inl ⟨by rfl,?_⟩) hHeld ?_ ?_
     rotate_left
     · rintro w' ⟨s0,s1,s2⟩
       go_simp;with_reducible rfl
     rotate_left
     · simp only [Act.put,zA,zB,zC,i64_w,i32_w]
       rfl
     refine one_ (i:=6) (N:=some 45) #[true,true,true,true,true,true,true,false,false,false,false,false,false,false,false,false] rfl rfl (one_of HT_.out (by kernel_rfl)) (by decide) (fun K hK=>?_)
     refine goes_ Tryd.func11 (by kernel_rfl) rfl #[.agg #[.int .i64 t132,.int .i64 t134,.int .i64 t137]] (by rfl) rfl rfl (by (try simp only [List.map_toArray,List.map_cons,List.map_nil]);first|done|rfl|(simp only [List.length_drop,List.length_take];rfl)) ?_
     with_reducible refine (spec_rdGood.calls t132 t134 t137 false _ A20.out).mono ?_
     rintro e w56 ⟨rfl,hb⟩
     refine ⟨_,rfl,?_⟩
     have n0_:=zI (Kd.R_below (by (with_reducible repeat (first|apply Kd.R_alloc|apply Kd.R_drewN|apply Kd.R_drew));exact HO_4.out) hb)
     have n1_:=zI (Kd.R_below (by (with_reducible repeat (first|apply Kd.R_alloc|apply Kd.R_drewN|apply Kd.R_drew));exact HO130.out) hb)
     have n2_:=zI (blk_below (g:=gb123) (o:=.cells #[.int .i64 0,.int .i64 0,.int .i64 0] 26 (0,0)) (by (with_reducible repeat (first|refine zD ?_ _|refine zF ?_|refine zE ?_ _));exact BK123.out) hb)
     have n3_:=zI (blk_below (g:=gb135) (o:=.cells #[.int .i64 t132,.int .i64 t134,.int .i64 t137] 26 (0,0)) (by (with_reducible repeat (first|refine zD ?_ _|refine zF ?_|refine zE ?_ _));exact BK135.out) hb)
     have n4_:=zI (below_step (by repeat (first|(with_reducible first|exact HB.out|apply zJ|apply zG|apply zH|refine zK ?_ GE123.out|refine zK ?_ GE135.out)|exact HB.out)) hb)
     clear HO_4 HO130 BK123 BK135 HB;have HO_4:=n0_;have HO130:=n1_;have BK123:=n2_;have BK135:=n3_;have HB:=n4_;clear n0_ n1_ n2_ n3_ n4_;(try clear hb);(try clear hb2);(try clear hk);(try clear hi)
     refine hK.out _ _ ⟨(blk_cell BK135.out 0).trans rfl,(blk_cell BK135.out 1).trans rfl,(blk_cell BK135.out 2).trans rfl⟩ (fun hHeld=>?_)
     clear hK K
     refine norm_ (a':=?_) ?_ ?_
     rotate_left
     · show Act.put _ (some 45) _ = _
       simp only [Act.put,zA,zB,zC,i64_w,i32_w]
       rfl
     refine pure_ (i:=7) (N:=some 46) (v:=?_) (a':=?_) #[true,true,true,true,true,true,true,true,false,false,false,false,false,false,false,false] rfl rfl (any_of HT_.out (by kernel_rfl)) (fun _ _ _ h=>h) (Or.inl ⟨by rfl,?_⟩) ?_ ?_
     rotate_left
     · intro w'
       go_simp;with_reducible rfl
     rotate_left
     · simp only [Act.put,zA,zB,zC,i64_w,i32_w]
       rfl
     refine pure_ (i:=8) (N:=some 47) (v:=?_) (a':=?_) #[true,true,true,true,true,true,true,true,true,false,false,false,false,false,false,false] rfl rfl (any_of HT_.out (by kernel_rfl)) (fun _ _ _ h=>h) (Or.inl ⟨by rfl,?_⟩) ?_ ?_
     rotate_left
     · intro w'
       go_simp;with_reducible rfl
     rotate_left
     · simp only [Act.put,zA,zB,zC,i64_w,i32_w]
       rfl
     refine pure_ (i:=9) (N:=some 48) (v:=undef) (a':=?_) #[true,true,true,true,true,true,true,true,true,true,false,false,false,false,false,false] rfl rfl (any_of HT_.out (by kernel_rfl)) (fun _ _ _ h=>h) (Or.inr ⟨by rfl,rfl⟩) ?_ ?_
     rotate_left
     · simp only [Act.put,zA,zB,zC,i64_w,i32_w]
       rfl
     refine pure_ (i:=10) (N:=some 49) (v:=undef) (a':=?_) #[true,true,true,true,true,true,true,true,true,true,true,false,false,false,false,false] rfl rfl (any_of HT_.out (by kernel_rfl)) (fun _ _ _ h=>h) (Or.inr ⟨by rfl,rfl⟩) ?_ ?_
     rotate_left
     · simp only [Act.put,zA,zB,zC,i64_w,i32_w]
       rfl
     refine pure_ (i:=11) (N:=some 50) (v:=undef) (a':=?_) #[true,true,true,true,true,true,true,true,true,true,true,true,false,false,false,false] rfl rfl (any_of HT_.out (by kernel_rfl)) (fun _ _ _ h=>h) (Or.inr ⟨by rfl,rfl⟩) ?_ ?_
     rotate_left
     · simp only [Act.put,zA,zB,zC,i64_w,i32_w]
       rfl
     refine pure_ (i:=12) (N:=some 51) (v:=undef) (a':=?_) #[true,true,true,true,true,true,true,true,true,true,true,true,true,false,false,false] rfl rfl (any_of HT_.out (by kernel_rfl)) (fun _ _ _ h=>h) (Or.inr ⟨by rfl,rfl⟩) ?_ ?_
     rotate_left
     · simp only [Act.put,zA,zB,zC,i64_w,i32_w]
       rfl
     refine pure_ (i:=13) (N:=some 52) (v:=?_) (a':=?_) #[true,true,true,true,true,true,true,true,true,true,true,true,true,true,false,false] rfl rfl (any_of HT_.out (by kernel_rfl)) (fun _ _ _ h=>h) (Or.inl ⟨by rfl,?_⟩) ?_ ?_
     rotate_left
     · intro w'
       go_simp;with_reducible rfl
     rotate_left
     · simp only [Act.put,zA,zB,zC,i64_w,i32_w]
       rfl
     refine one_ (i:=14) (N:=none) #[true,true,true,true,true,true,true,true,true,true,true,true,true,true,true,false] rfl rfl (one_of HT_.out (by kernel_rfl)) (by decide) (fun K hK=>?_)
     have hs57 : w56.cell? ⟨gb123,0,none⟩ = some (.int .i64 0):=(blk_cell BK123.out 0).trans rfl
     have hfs57:=blk_frozen BK123.out 0
     have hns57_1:=NB135_123.out;have hms57_1:=NB123_135.out
     have hs58 : w56.cell? ⟨gb123,1,none⟩ = some (.int .i64 0):=(blk_cell BK123.out 1).trans rfl
     have hfs58:=blk_frozen BK123.out 1
     have hns58_1:=NB135_123.out;have hms58_1:=NB123_135.out
     have hs59 : w56.cell? ⟨gb123,2,none⟩ = some (.int .i64 0):=(blk_cell BK123.out 2).trans rfl
     have hfs59:=blk_frozen BK123.out 2
     have hns59_1:=NB135_123.out;have hms59_1:=NB123_135.out
     refine skip_ (w1:=?_) (by rfl) rfl ?_ ?_
     rotate_left
     · go_simp
       rfl
     refine hK.out _ _ ⟨((cell_far (p:=⟨gb123,_,none⟩) NB135_123.out _).trans (((cell_far (p:=⟨gb123,_,none⟩) NB135_123.out _).trans (((cell_far (p:=⟨gb123,_,none⟩) NB135_123.out _).trans (hHeld.1)))))),((cell_far (p:=⟨gb123,_,none⟩) NB135_123.out _).trans (((cell_far (p:=⟨gb123,_,none⟩) NB135_123.out _).trans (((cell_far (p:=⟨gb123,_,none⟩) NB135_123.out _).trans (hHeld.2.1)))))),((cell_far (p:=⟨gb123,_,none⟩) NB135_123.out _).trans (((cell_far (p:=⟨gb123,_,none⟩) NB135_123.out _).trans (((cell_far (p:=⟨gb123,_,none⟩) NB135_123.out _).trans (hHeld.2.2))))))⟩ (fun hHeld=>?_)
     clear hK K
     refine pure_ (i:=15) (N:=some 3) (v:=?_) (a':=?_) #[true,true,true,true,true,true,true,true,true,true,true,true,true,true,true,true] rfl rfl (any_of HT_.out (by kernel_rfl)) (fun _ _ _ h=>h) (Or.inl ⟨by rfl,?_⟩) ?_ ?_
     rotate_left
     · intro w'
       go_simp;with_reducible rfl
     rotate_left
     · simp only [Act.put,zA,zB,zC,i64_w,i32_w]
       rfl
     refine done_ (done_of HT_.out (by kernel_rfl)) ?_
     try go_wp2
     refine bodyPost_ret (results_ct rfl _ _ gb123 26 #[.int .i64 t132,.int .i64 t134,.int .i64 t137] (0,0) _ rfl (by (with_reducible repeat (first|refine zD ?_ _|refine zF ?_|refine zE ?_ _));refine blk_put (cs:=#[.int .i64 t132,.int .i64 t134,.int .i64 0]) ?_ 2 _ rfl;(with_reducible repeat (first|refine zD ?_ _|refine zF ?_|refine zE ?_ _));refine blk_put (cs:=#[.int .i64 t132,.int .i64 0,.int .i64 0]) ?_ 1 _ rfl;(with_reducible repeat (first|refine zD ?_ _|refine zF ?_|refine zE ?_ _));refine blk_put (cs:=#[.int .i64 0,.int .i64 0,.int .i64 0]) ?_ 0 _ rfl;(with_reducible repeat (first|refine zD ?_ _|refine zF ?_|refine zE ?_ _));exact BK123.out) Tryd.underlying26 rfl (by kernel_rfl)) rfl ?_
     exact ⟨by first|rfl|(simp [errW_none,errW_some] <;> rfl)|(simp [*,errW_none,errW_some] <;> rfl),by repeat (first|(with_reducible first|exact HB.out|apply zJ|apply zG|apply zH|refine zK ?_ GE123.out|refine zK ?_ GE135.out)|exact HB.out)⟩
   subst c21
   have H1 : ((spec_rdText.f kj2 t132 t134 t137).bind fun t139=>(some (t132,t134,t137,(t139.toList == a0.toList)))) = some (r1,r2,r3,r4):=by rw [if_pos rfl] at H;exact H
   clear H;have H:=H1;clear H1;replace H:=Option.bind_eq_some_iff.mp H
   obtain ⟨t139,A220,H⟩:=H
   replace H : (some (t132,t134,t137,(t139.toList == a0.toList))) = some (r1,r2,r3,r4):=H
   have A22:=zI A220;clear A220
   simp only [Option.some.injEq,Prod.mk.injEq] at H
   obtain ⟨rfl,rfl,rfl,rfl⟩:=H
   obtain ⟨Ao23,co23,eo23⟩:=Kd.R_slice HO_4.out
   subst eo23
   have p127 : 0 ≤ (1 : Int):=(by omega)
   have q127 : 1 < (t124.length : Int):=of_decide_eq_true (by first|(with_reducible assumption)|assumption)
   obtain ⟨ad127,e127,hx127_0⟩:=Kd.at_string (Kd.R_reads' HO_4.out).2.2 1 p127 q127
   cases e127
   (try simp only [show (1 : Int).toNat = 1 from rfl,Nat.reduceMul,Nat.reduceEqDiff,Go.Addr.add,↓reduceIte] at hx127_0)
   have qi127 : (1 < t124.length) = True:=eq_true (by omega)
   (try rw [show ((1 : Int)).toNat = 1 from rfl] at hx127_0)
   replace p127:=eq_true p127
   replace q127:=eq_true q127
   try go_wp2_with (first|((with_reducible refine gate_callee (f:=24) rfl ?_);refine goesL_ (some 21) rfl rfl Tryd.func24 (by kernel_rfl) rfl #[.string (rdOf ByteArray.empty t124 1),.int .u8 47] rfl (by (try simp only [List.map_toArray,List.map_cons,List.map_nil]);first|done|rfl|(simp only [List.length_drop,List.length_take];rfl)) ?_;(with_reducible refine (spec_l1Split.calls kj2 (rdOf ByteArray.empty t124 1) 47 t128 _ A11.out).mono ?_);rintro e w24 ⟨v129,rfl,ho0,hb⟩;refine ⟨_,rfl,?_⟩;have n0_:=zI (Kd.R_elder' (by (with_reducible repeat (first|apply Kd.R_alloc|apply Kd.R_drewN|apply Kd.R_drew));exact HO_4.out) (Kd.R_base ho0) hb);have n1_:=zI (Kd.R_lower (Kd.R_new' ho0 (Kd.R_lt (by (with_reducible repeat (first|apply Kd.R_alloc|apply Kd.R_drewN|apply Kd.R_drew));exact HO_4.out))) (below_size (by repeat (first|(with_reducible first|exact HB.out|apply zJ|apply zG|apply zH|refine zK ?_ GE123.out)|exact HB.out))));have n2_:=zI (blk_below (g:=gb123) (o:=.cells #[.int .i64 0,.int .i64 0,.int .i64 0] 26 (0,0)) (by (with_reducible repeat (first|refine zD ?_ _|refine zF ?_|refine zE ?_ _));exact BK123.out) hb);have n3_:=zI (below_step (by repeat (first|(with_reducible first|exact HB.out|apply zJ|apply zG|apply zH|refine zK ?_ GE123.out)|exact HB.out)) hb);clear HO_4;clear BK123;clear HB;have HO_4:=n0_;have HO130:=n1_;have BK123:=n2_;have HB:=n3_;clear n0_ n1_ n2_ n3_;(try clear hb);(try clear hb2);(try clear hk);(try clear hi);(try clear ho0)))
   have n0_:=zI (Kd.R_drew HO_4.out)
   have n1_:=zI (Kd.R_drew HO130.out)
   have n2_:=zI (zF BK123.out)
   have n3_:=zI (zH HB.out)
   clear HO_4 HO130 BK123 HB;have HO_4:=n0_;have HO130:=n1_;have BK123:=n2_;have HB:=n3_;clear n0_ n1_ n2_ n3_
   have p131 : 0 ≤ (0 : Int):=(by omega)
   have q131 : 0 < (t124.length : Int):=of_decide_eq_true (by first|(with_reducible assumption)|assumption)
   obtain ⟨ad131,e131,hx131_0⟩:=Kd.at_string (Kd.R_reads' HO_4.out).2.2 0 p131 q131
   obtain rfl : ad127 = ad131:=(by injection e131)
   have qi131 : (0 < t124.length) = True:=eq_true (by omega)
   (try rw [show ((0 : Int)).toNat = 0 from rfl] at hx131_0);(try rw [Addr.add_zero'] at hx131_0)
   replace p131:=eq_true p131
   replace q131:=eq_true q131
   obtain ⟨Ao26,co26,eo26⟩:=Kd.R_slice HO130.out
   (first|subst eo26|(injection eo26 with f1_ f2_ f3_;have f4_:=f1_.symm;have f5_:=f3_.symm;clear f1_ f2_ f3_;subst f4_;subst f5_))
   have p133 : 0 ≤ (0 : Int):=(by omega)
   have q133 : 0 < (t128.length : Int):=of_decide_eq_true (by first|(with_reducible assumption)|assumption)
   obtain ⟨ad133,e133,hx133_0⟩:=Kd.at_string (Kd.R_reads' HO130.out).2.2 0 p133 q133
   cases e133
   have qi133 : (0 < t128.length) = True:=eq_true (by omega)
   (try rw [show ((0 : Int)).toNat = 0 from rfl] at hx133_0);(try rw [Addr.add_zero'] at hx133_0)
   replace p133:=eq_true p133
   replace q133:=eq_true q133
   refine start_ (n:=11) (S:=fun w'=>w'.cell? ad127 = some (.string (rdOf ByteArray.empty t124 0)) ∧ w'.cell? ad133 = some (.string (rdOf ByteArray.empty t128 0))) (ds:=[]) #[false,false,false,false,false,false,false,false,false,false,false] (by kernel_rfl) rfl rfl ⟨hx131_0,hx133_0⟩ (fun hHeld=>?_);refine with_tabW spec_rdParse.tab5 spec_rdParse.bits5 (fun HT_ HW_=>?_)
   generalize w24.drew = w25 at HO_4 HO130 BK123 HB hx131_0 hx133_0 hHeld ⊢
   refine pure_ (i:=0) (N:=some 22) (v:=?_) (a':=?_) #[true,false,false,false,false,false,false,false,false,false,false] rfl rfl (any_of HT_.out (by kernel_rfl)) (fun _ _ _ h=>h) (Or.inl ⟨by rfl,?_⟩) ?_ ?_
   rotate_left
   · intro w'
     go_simp;with_reducible rfl
   rotate_left
   · simp only [Act.put,zA,zB,zC,i64_w,i32_w]
     rfl
   refine pure_ (i:=1) (N:=some 23) (v:=?_) (a':=?_) #[true,true,false,false,false,false,false,false,false,false,false] rfl rfl (any_of HT_.out (by kernel_rfl)) (fun _ _ _ h=>h) (Or.inl ⟨by rfl,?_⟩) ?_ ?_
   rotate_left
   · intro w'
     go_simp;with_reducible rfl
   rotate_left
   · simp only [Act.put,zA,zB,zC,i64_w,i32_w]
     rfl
   refine pure_ (i:=4) (N:=some 26) (v:=?_) (a':=?_) #[true,true,false,false,true,false,false,false,false,false,false] rfl rfl (any_of HT_.out (by kernel_rfl)) (fun _ _ _ h=>h) (Or.inl ⟨by rfl,?_⟩) ?_ ?_
   rotate_left
   · intro w'
     go_simp;with_reducible rfl
   rotate_left
   · simp only [Act.put,zA,zB,zC,i64_w,i32_w]
     rfl
   refine pure_ (i:=5) (N:=some 27) (v:=?_) (a':=?_) #[true,true,false,false,true,true,false,false,false,false,false] rfl rfl (any_of HT_.out (by kernel_rfl)) (fun _ _ _ h=>h) (Or.inl ⟨by rfl,?_⟩) ?_ ?_
   rotate_left
   · intro w'
     go_simp;with_reducible rfl
   rotate_left
   · simp only [Act.put,zA,zB,zC,i64_w,i32_w]
     rfl
   refine take_ (i:=2) (N:=some 24) (v:=?_) (a':=?_) #[true,true,true,false,true,true,false,false,false,false,false] rfl rfl (take_ofW HT_.out HW_.out (by kernel_rfl)) (fun _ _ _ h=>h) (Or.inl ⟨by rfl,?_⟩) hHeld ?_ ?_
   rotate_left
   · rintro w' ⟨s0,s1⟩
     go_simp;with_reducible rfl
   rotate_left
   · simp only [Act.put,zA,zB,zC,i64_w,i32_w]
     rfl
   refine take_ (i:=6) (N:=some 28) (v:=?_) (a':=?_) #[true,true,true,false,true,true,true,false,false,false,false] rfl rfl (take_ofW HT_.out HW_.out (by kernel_rfl)) (fun _ _ _ h=>h) (Or.inl ⟨by rfl,?_⟩) hHeld ?_ ?_
   rotate_left
   · rintro w' ⟨s0,s1⟩
     go_simp;with_reducible rfl
   rotate_left
   · simp only [Act.put,zA,zB,zC,i64_w,i32_w]
     rfl
   refine join_ (σ:=Nat) 1 #[true,true,true,true,true,true,true,true,true,true,false] (fun s_=>[(25,.int .i64 t132),(29,.int .i64 t134),(6,.pointer (some ⟨s_,0,none⟩)),(30,.agg #[.int .i64 t132,.int .i64 t134,.int .i64 0])]) (fun s_ w'=>(w'.cell? ad127 = some (.string (rdOf ByteArray.empty t124 0)) ∧ w'.cell? ad133 = some (.string (rdOf ByteArray.empty t128 0))) ∧ (Kd.R Kd.string 9 w' w.heap.size (fun k_=>some k_ ≠ (.slice (some ad127) t124.length co23 : Value).ownBlock) (.slice (some ad133) t128.length co26) t128) ∧ (Kd.R Kd.string 9 w' w.heap.size (fun k_=>some k_ ≠ (.slice (some ad133) t128.length co26 : Value).ownBlock) (.slice (some ad127) t124.length co23) t124) ∧ (w'.heap[gb123]? = some (.cells #[.int .i64 0,.int .i64 0,.int .i64 0] 26 (0,0))) ∧ (w'.heap[s_]? = some (.cells #[.int .i64 0,.int .i64 0,.int .i64 0] 26 (0,0))) ∧ (w.heap.size ≤ s_) ∧ (w.heap.size ≤ s_) ∧ (gb123 ≠ s_) ∧ (s_ ≠ gb123) ∧ (Below w.heap.size w w')) ?_ ?_
   rotate_left
   · intro hCont
     refine two_ (i:=3) (j:=9) (Ni:=some 25) (Nj:=some 6) #[true,true,true,true,true,true,true,false,false,false,false] #[true,true,true,false,true,true,true,false,false,true,false] rfl rfl rfl rfl (two_of HT_.out (by kernel_rfl)) (by decide) (by decide) (fun K hK=>?_) (fun K hK=>?_)
     rotate_left
     · skip
       refine box_step ?hg (N:=6) ?hd (cs:=#[.int .i64 0,.int .i64 0,.int .i64 0]) (t:=26) ?hr ?_;(case hd=>rfl);(case hg=>rfl);(case hr=>first|(go_simp;done)|(go_simp;rfl))
       intro gb135 hg w27 hbox hb
       have HS0_:=(hb.cell (World.block_lt_of_cell? _ _ (hHeld.1))).trans (hHeld.1)
       have HS1_:=(hb.cell (World.block_lt_of_cell? _ _ (hHeld.2))).trans (hHeld.2)
       have n0_:=zI (Kd.R_below (by (with_reducible repeat (first|apply Kd.R_alloc|apply Kd.R_drewN|apply Kd.R_drew));exact HO_4.out) hb)
       have n1_:=zI (Kd.R_below (by (with_reducible repeat (first|apply Kd.R_alloc|apply Kd.R_drewN|apply Kd.R_drew));exact HO130.out) hb)
       have n2_:=zI (blk_below (g:=gb123) (o:=.cells #[.int .i64 0,.int .i64 0,.int .i64 0] 26 (0,0)) (by (with_reducible repeat (first|refine zD ?_ _|refine zF ?_|refine zE ?_ _));exact BK123.out) hb)
       have n3_:=zI (below_step (by repeat (first|(with_reducible first|exact HB.out|apply zJ|apply zG|apply zH|refine zK ?_ GE123.out)|exact HB.out)) hb)
       have n4_:=zI (hbox)
       have n5_:=zI ((by rw [hg];exact (below_size (by repeat (first|(with_reducible first|exact HB.out|apply zJ|apply zG|apply zH|refine zK ?_ GE123.out)|exact HB.out))) : w.heap.size ≤ gb135))
       have n6_:=zI ((by rw [hg];exact (below_size (by repeat (first|(with_reducible first|exact HB.out|apply zJ|apply zG|apply zH|refine zK ?_ GE123.out)|exact HB.out))) : w.heap.size ≤ gb135))
       have n7_:=zI ((by rw [hg];exact Nat.ne_of_lt (blk_lt (g:=gb123) (o:=.cells #[.int .i64 0,.int .i64 0,.int .i64 0] 26 (0,0)) (by (with_reducible repeat (first|refine zD ?_ _|refine zF ?_|refine zE ?_ _));exact BK123.out)) : gb123 ≠ gb135))
       have n8_:=zI ((by rw [hg];exact Nat.ne_of_gt (blk_lt (g:=gb123) (o:=.cells #[.int .i64 0,.int .i64 0,.int .i64 0] 26 (0,0)) (by (with_reducible repeat (first|refine zD ?_ _|refine zF ?_|refine zE ?_ _));exact BK123.out)) : gb135 ≠ gb123))
       clear HO_4 HO130 BK123 HB;have HO_4:=n0_;have HO130:=n1_;have BK123:=n2_;have HB:=n3_;have BK135:=n4_;have GW135:=n5_;have GE135:=n6_;have NB123_135:=n7_;have NB135_123:=n8_;clear n0_ n1_ n2_ n3_ n4_ n5_ n6_ n7_ n8_ hb hbox hg
       refine hK.out _ _ ⟨HS0_,HS1_⟩ (fun hHeld=>?_)
       clear hK K
       refine norm_ (a':=?_) ?_ ?_
       rotate_left
       · show Act.put _ (some 6) _ = _
         simp only [Act.put,zA,zB,zC,i64_w,i32_w]
         rfl
       refine one_ (i:=3) (N:=some 25) #[true,true,true,true,true,true,true,false,false,true,false] rfl rfl (one_of HT_.out (by kernel_rfl)) (by decide) (fun K hK=>?_)
       refine goes_ Tryd.func25 (by kernel_rfl) rfl #[.string (rdOf ByteArray.empty t124 0)] (by rfl) rfl rfl (by (try simp only [List.map_toArray,List.map_cons,List.map_nil]);first|done|rfl|(simp only [List.length_drop,List.length_take];rfl)) ?_
       with_reducible refine (spec_l1Read.calls kj2 (rdOf ByteArray.empty t124 0) t132 _ A13.out).mono ?_
       rintro e w' ⟨rfl,⟨nd,rfl⟩⟩
       refine ⟨_,rfl,?_⟩
       refine hK.out _ _ ⟨hHeld.1,hHeld.2⟩ (fun hHeld=>?_)
       clear hK K
       refine norm_ (a':=?_) ?_ ?_
       rotate_left
       · show Act.put _ (some 25) _ = _
         simp only [Act.put,zA,zB,zC,i64_w,i32_w]
         rfl
       refine one_ (i:=7) (N:=some 29) #[true,true,true,true,true,true,true,true,false,true,false] rfl rfl (one_of HT_.out (by kernel_rfl)) (by decide) (fun K hK=>?_)
       refine goes_ Tryd.func25 (by kernel_rfl) rfl #[.string (rdOf ByteArray.empty t128 0)] (by rfl) rfl rfl (by (try simp only [List.map_toArray,List.map_cons,List.map_nil]);first|done|rfl|(simp only [List.length_drop,List.length_take];rfl)) ?_
       with_reducible refine (spec_l1Read.calls kj2 (rdOf ByteArray.empty t128 0) t134 _ A15.out).mono ?_
       rintro e w' ⟨rfl,⟨nd,rfl⟩⟩
       refine ⟨_,rfl,?_⟩
       refine hK.out _ _ ⟨hHeld.1,hHeld.2⟩ (fun hHeld=>?_)
       clear hK K
       refine norm_ (a':=?_) ?_ ?_
       rotate_left
       · show Act.put _ (some 29) _ = _
         simp only [Act.put,zA,zB,zC,i64_w,i32_w]
         rfl
       refine pure_ (i:=8) (N:=some 30) (v:=?_) (a':=?_) #[true,true,true,true,true,true,true,true,true,true,false] rfl rfl (any_of HT_.out (by kernel_rfl)) (fun _ _ _ h=>h) (Or.inl ⟨by rfl,?_⟩) ?_ ?_
       rotate_left
       · intro w'
         go_simp;with_reducible rfl
       rotate_left
       · simp only [Act.put,zA,zB,zC,i64_w,i32_w]
         rfl
       exact norm_ (by simp only [putAll,Act.put,zA,zB,zC]) (hCont (gb135) _ ⟨hHeld,(by (with_reducible repeat (first|apply Kd.R_alloc|apply Kd.R_drewN|apply Kd.R_drew));exact Kd.R_mono HO130.out (fun _ hk=>hk.2)),(by (with_reducible repeat (first|apply Kd.R_alloc|apply Kd.R_drewN|apply Kd.R_drew));exact Kd.R_mono HO_4.out (fun _ hk=>hk.2)),(by (with_reducible repeat (first|refine zD ?_ _|refine zF ?_|refine zE ?_ _));exact BK123.out),(by (with_reducible repeat (first|refine zD ?_ _|refine zF ?_|refine zE ?_ _));exact BK135.out),GW135.out,GE135.out,NB123_135.out,NB135_123.out,(by repeat (first|(with_reducible first|exact HB.out|apply zJ|apply zG|apply zH|refine zK ?_ GE123.out|refine zK ?_ GE135.out)|exact HB.out))⟩)
     skip
     refine goes_ Tryd.func25 (by kernel_rfl) rfl #[.string (rdOf ByteArray.empty t124 0)] (by rfl) rfl rfl (by (try simp only [List.map_toArray,List.map_cons,List.map_nil]);first|done|rfl|(simp only [List.length_drop,List.length_take];rfl)) ?_
     with_reducible refine (spec_l1Read.calls kj2 (rdOf ByteArray.empty t124 0) t132 _ A13.out).mono ?_
     rintro e w' ⟨rfl,⟨nd,rfl⟩⟩
     refine ⟨_,rfl,?_⟩
     refine hK.out _ _ ⟨hHeld.1,hHeld.2⟩ (fun hHeld=>?_)
     clear hK K
     refine norm_ (a':=?_) ?_ ?_
     rotate_left
     · show Act.put _ (some 25) _ = _
       simp only [Act.put,zA,zB,zC,i64_w,i32_w]
       rfl
     refine two_ (i:=7) (j:=9) (Ni:=some 29) (Nj:=some 6) #[true,true,true,true,true,true,true,true,false,false,false] #[true,true,true,true,true,true,true,false,false,true,false] rfl rfl rfl rfl (two_of HT_.out (by kernel_rfl)) (by decide) (by decide) (fun K hK=>?_) (fun K hK=>?_)
     · skip
       refine goes_ Tryd.func25 (by kernel_rfl) rfl #[.string (rdOf ByteArray.empty t128 0)] (by rfl) rfl rfl (by (try simp only [List.map_toArray,List.map_cons,List.map_nil]);first|done|rfl|(simp only [List.length_drop,List.length_take];rfl)) ?_
       with_reducible refine (spec_l1Read.calls kj2 (rdOf ByteArray.empty t128 0) t134 _ A15.out).mono ?_
       rintro e w' ⟨rfl,⟨nd,rfl⟩⟩
       refine ⟨_,rfl,?_⟩
       refine hK.out _ _ ⟨hHeld.1,hHeld.2⟩ (fun hHeld=>?_)
       clear hK K
       refine norm_ (a':=?_) ?_ ?_
       rotate_left
       · show Act.put _ (some 29) _ = _
         simp only [Act.put,zA,zB,zC,i64_w,i32_w]
         rfl
       refine pure_ (i:=8) (N:=some 30) (v:=?_) (a':=?_) #[true,true,true,true,true,true,true,true,true,false,false] rfl rfl (any_of HT_.out (by kernel_rfl)) (fun _ _ _ h=>h) (Or.inl ⟨by rfl,?_⟩) ?_ ?_
       rotate_left
       · intro w'
         go_simp;with_reducible rfl
       rotate_left
       · simp only [Act.put,zA,zB,zC,i64_w,i32_w]
         rfl
       refine one_ (i:=9) (N:=some 6) #[true,true,true,true,true,true,true,true,true,true,false] rfl rfl (one_of HT_.out (by kernel_rfl)) (by decide) (fun K hK=>?_)
       refine box_step ?hg (N:=6) ?hd (cs:=#[.int .i64 0,.int .i64 0,.int .i64 0]) (t:=26) ?hr ?_;(case hd=>rfl);(case hg=>rfl);(case hr=>first|(go_simp;done)|(go_simp;rfl))
       intro gb135 hg w27 hbox hb
       have HS0_:=(hb.cell (World.block_lt_of_cell? _ _ (hHeld.1))).trans (hHeld.1)
       have HS1_:=(hb.cell (World.block_lt_of_cell? _ _ (hHeld.2))).trans (hHeld.2)
       have n0_:=zI (Kd.R_below (by (with_reducible repeat (first|apply Kd.R_alloc|apply Kd.R_drewN|apply Kd.R_drew));exact HO_4.out) hb)
       have n1_:=zI (Kd.R_below (by (with_reducible repeat (first|apply Kd.R_alloc|apply Kd.R_drewN|apply Kd.R_drew));exact HO130.out) hb)
       have n2_:=zI (blk_below (g:=gb123) (o:=.cells #[.int .i64 0,.int .i64 0,.int .i64 0] 26 (0,0)) (by (with_reducible repeat (first|refine zD ?_ _|refine zF ?_|refine zE ?_ _));exact BK123.out) hb)
       have n3_:=zI (below_step (by repeat (first|(with_reducible first|exact HB.out|apply zJ|apply zG|apply zH|refine zK ?_ GE123.out)|exact HB.out)) hb)
       have n4_:=zI (hbox)
       have n5_:=zI ((by rw [hg];exact (below_size (by repeat (first|(with_reducible first|exact HB.out|apply zJ|apply zG|apply zH|refine zK ?_ GE123.out)|exact HB.out))) : w.heap.size ≤ gb135))
       have n6_:=zI ((by rw [hg];exact (below_size (by repeat (first|(with_reducible first|exact HB.out|apply zJ|apply zG|apply zH|refine zK ?_ GE123.out)|exact HB.out))) : w.heap.size ≤ gb135))
       have n7_:=zI ((by rw [hg];exact Nat.ne_of_lt (blk_lt (g:=gb123) (o:=.cells #[.int .i64 0,.int .i64 0,.int .i64 0] 26 (0,0)) (by (with_reducible repeat (first|refine zD ?_ _|refine zF ?_|refine zE ?_ _));exact BK123.out)) : gb123 ≠ gb135))
       have n8_:=zI ((by rw [hg];exact Nat.ne_of_gt (blk_lt (g:=gb123) (o:=.cells #[.int .i64 0,.int .i64 0,.int .i64 0] 26 (0,0)) (by (with_reducible repeat (first|refine zD ?_ _|refine zF ?_|refine zE ?_ _));exact BK123.out)) : gb135 ≠ gb123))
       clear HO_4 HO130 BK123 HB;have HO_4:=n0_;have HO130:=n1_;have BK123:=n2_;have HB:=n3_;have BK135:=n4_;have GW135:=n5_;have GE135:=n6_;have NB123_135:=n7_;have NB135_123:=n8_;clear n0_ n1_ n2_ n3_ n4_ n5_ n6_ n7_ n8_ hb hbox hg
       refine hK.out _ _ ⟨HS0_,HS1_⟩ (fun hHeld=>?_)
       clear hK K
       refine norm_ (a':=?_) ?_ ?_
       rotate_left
       · show Act.put _ (some 6) _ = _
         simp only [Act.put,zA,zB,zC,i64_w,i32_w]
         rfl
       exact norm_ (by simp only [putAll,Act.put,zA,zB,zC]) (hCont (gb135) _ ⟨hHeld,(by (with_reducible repeat (first|apply Kd.R_alloc|apply Kd.R_drewN|apply Kd.R_drew));exact Kd.R_mono HO130.out (fun _ hk=>hk.2)),(by (with_reducible repeat (first|apply Kd.R_alloc|apply Kd.R_drewN|apply Kd.R_drew));exact Kd.R_mono HO_4.out (fun _ hk=>hk.2)),(by (with_reducible repeat (first|refine zD ?_ _|refine zF ?_|refine zE ?_ _));exact BK123.out),(by (with_reducible repeat (first|refine zD ?_ _|refine zF ?_|refine zE ?_ _));exact BK135.out),GW135.out,GE135.out,NB123_135.out,NB135_123.out,(by repeat (first|(with_reducible first|exact HB.out|apply zJ|apply zG|apply zH|refine zK ?_ GE123.out|refine zK ?_ GE135.out)|exact HB.out))⟩)
     skip
     refine box_step ?hg (N:=6) ?hd (cs:=#[.int .i64 0,.int .i64 0,.int .i64 0]) (t:=26) ?hr ?_;(case hd=>rfl);(case hg=>rfl);(case hr=>first|(go_simp;done)|(go_simp;rfl))
     intro gb135 hg w27 hbox hb
     have HS0_:=(hb.cell (World.block_lt_of_cell? _ _ (hHeld.1))).trans (hHeld.1)
     have HS1_:=(hb.cell (World.block_lt_of_cell? _ _ (hHeld.2))).trans (hHeld.2)
     have n0_:=zI (Kd.R_below (by (with_reducible repeat (first|apply Kd.R_alloc|apply Kd.R_drewN|apply Kd.R_drew));exact HO_4.out) hb)
     have n1_:=zI (Kd.R_below (by (with_reducible repeat (first|apply Kd.R_alloc|apply Kd.R_drewN|apply Kd.R_drew));exact HO130.out) hb)
     have n2_:=zI (blk_below (g:=gb123) (o:=.cells #[.int .i64 0,.int .i64 0,.int .i64 0] 26 (0,0)) (by (with_reducible repeat (first|refine zD ?_ _|refine zF ?_|refine zE ?_ _));exact BK123.out) hb)
     have n3_:=zI (below_step (by repeat (first|(with_reducible first|exact HB.out|apply zJ|apply zG|apply zH|refine zK ?_ GE123.out)|exact HB.out)) hb)
     have n4_:=zI (hbox)
     have n5_:=zI ((by rw [hg];exact (below_size (by repeat (first|(with_reducible first|exact HB.out|apply zJ|apply zG|apply zH|refine zK ?_ GE123.out)|exact HB.out))) : w.heap.size ≤ gb135))
     have n6_:=zI ((by rw [hg];exact (below_size (by repeat (first|(with_reducible first|exact HB.out|apply zJ|apply zG|apply zH|refine zK ?_ GE123.out)|exact HB.out))) : w.heap.size ≤ gb135))
     have n7_:=zI ((by rw [hg];exact Nat.ne_of_lt (blk_lt (g:=gb123) (o:=.cells #[.int .i64 0,.int .i64 0,.int .i64 0] 26 (0,0)) (by (with_reducible repeat (first|refine zD ?_ _|refine zF ?_|refine zE ?_ _));exact BK123.out)) : gb123 ≠ gb135))
     have n8_:=zI ((by rw [hg];exact Nat.ne_of_gt (blk_lt (g:=gb123) (o:=.cells #[.int .i64 0,.int .i64 0,.int .i64 0] 26 (0,0)) (by (with_reducible repeat (first|refine zD ?_ _|refine zF ?_|refine zE ?_ _));exact BK123.out)) : gb135 ≠ gb123))
     clear HO_4 HO130 BK123 HB;have HO_4:=n0_;have HO130:=n1_;have BK123:=n2_;have HB:=n3_;have BK135:=n4_;have GW135:=n5_;have GE135:=n6_;have NB123_135:=n7_;have NB135_123:=n8_;clear n0_ n1_ n2_ n3_ n4_ n5_ n6_ n7_ n8_ hb hbox hg
     refine hK.out _ _ ⟨HS0_,HS1_⟩ (fun hHeld=>?_)
     clear hK K
     refine norm_ (a':=?_) ?_ ?_
     rotate_left
     · show Act.put _ (some 6) _ = _
       simp only [Act.put,zA,zB,zC,i64_w,i32_w]
       rfl
     refine one_ (i:=7) (N:=some 29) #[true,true,true,true,true,true,true,true,false,true,false] rfl rfl (one_of HT_.out (by kernel_rfl)) (by decide) (fun K hK=>?_)
     refine goes_ Tryd.func25 (by kernel_rfl) rfl #[.string (rdOf ByteArray.empty t128 0)] (by rfl) rfl rfl (by (try simp only [List.map_toArray,List.map_cons,List.map_nil]);first|done|rfl|(simp only [List.length_drop,List.length_take];rfl)) ?_
     with_reducible refine (spec_l1Read.calls kj2 (rdOf ByteArray.empty t128 0) t134 _ A15.out).mono ?_
     rintro e w' ⟨rfl,⟨nd,rfl⟩⟩
     refine ⟨_,rfl,?_⟩
     refine hK.out _ _ ⟨hHeld.1,hHeld.2⟩ (fun hHeld=>?_)
     clear hK K
     refine norm_ (a':=?_) ?_ ?_
     rotate_left
     · show Act.put _ (some 29) _ = _
       simp only [Act.put,zA,zB,zC,i64_w,i32_w]
       rfl
     refine pure_ (i:=8) (N:=some 30) (v:=?_) (a':=?_) #[true,true,true,true,true,true,true,true,true,true,false] rfl rfl (any_of HT_.out (by kernel_rfl)) (fun _ _ _ h=>h) (Or.inl ⟨by rfl,?_⟩) ?_ ?_
     rotate_left
     · intro w'
       go_simp;with_reducible rfl
     rotate_left
     · simp only [Act.put,zA,zB,zC,i64_w,i32_w]
       rfl
     exact norm_ (by simp only [putAll,Act.put,zA,zB,zC]) (hCont (gb135) _ ⟨hHeld,(by (with_reducible repeat (first|apply Kd.R_alloc|apply Kd.R_drewN|apply Kd.R_drew));exact Kd.R_mono HO130.out (fun _ hk=>hk.2)),(by (with_reducible repeat (first|apply Kd.R_alloc|apply Kd.R_drewN|apply Kd.R_drew));exact Kd.R_mono HO_4.out (fun _ hk=>hk.2)),(by (with_reducible repeat (first|refine zD ?_ _|refine zF ?_|refine zE ?_ _));exact BK123.out),(by (with_reducible repeat (first|refine zD ?_ _|refine zF ?_|refine zE ?_ _));exact BK135.out),GW135.out,GE135.out,NB123_135.out,NB135_123.out,(by repeat (first|(with_reducible first|exact HB.out|apply zJ|apply zG|apply zH|refine zK ?_ GE123.out|refine zK ?_ GE135.out)|exact HB.out))⟩)
   rintro gb135 w28 ⟨hS_,h0_,h1_,h2_,h3_,h4_,h5_,h6_,h7_,h8_⟩
   have n0_ : Aside0 (Kd.R Kd.string 9 w28 w.heap.size (fun k_=>some k_ ≠ (.slice (some ad127) t124.length co23 : Value).ownBlock) (.slice (some ad133) t128.length co26) t128):=⟨h0_⟩
   have n1_ : Aside0 (Kd.R Kd.string 9 w28 w.heap.size (fun k_=>some k_ ≠ (.slice (some ad133) t128.length co26 : Value).ownBlock) (.slice (some ad127) t124.length co23) t124):=⟨h1_⟩
   have n2_ : Aside0 (w28.heap[gb123]? = some (.cells #[.int .i64 0,.int .i64 0,.int .i64 0] 26 (0,0))):=⟨h2_⟩
   have n3_ : Aside0 (w28.heap[gb135]? = some (.cells #[.int .i64 0,.int .i64 0,.int .i64 0] 26 (0,0))):=⟨h3_⟩
   have n4_ : Aside0 (w.heap.size ≤ gb135):=⟨h4_⟩
   have n5_ : Aside0 (w.heap.size ≤ gb135):=⟨h5_⟩
   have n6_ : Aside0 (gb123 ≠ gb135):=⟨h6_⟩
   have n7_ : Aside0 (gb135 ≠ gb123):=⟨h7_⟩
   have n8_ : Aside0 (Below w.heap.size w w28):=⟨h8_⟩
   clear HO_4 HO130 BK123 HB h0_ h1_ h2_ h3_ h4_ h5_ h6_ h7_ h8_;have HO130:=n0_;have HO_4:=n1_;have BK123:=n2_;have BK135:=n3_;have GW135:=n4_;have GE135:=n5_;have NB123_135:=n6_;have NB135_123:=n7_;have HB:=n8_;clear n0_ n1_ n2_ n3_ n4_ n5_ n6_ n7_ n8_
   have hHeld : w28.cell? ad127 = some (.string (rdOf ByteArray.empty t124 0)) ∧ w28.cell? ad133 = some (.string (rdOf ByteArray.empty t128 0)):=hS_
   refine norm_ (a':=?_) ?_ ?_
   rotate_left
   · simp only [putAll,Act.put,zA,zB,zC]
     rfl
   refine one_ (i:=10) (N:=none) #[true,true,true,true,true,true,true,true,true,true,true] rfl rfl (one_of HT_.out (by kernel_rfl)) (by decide) (fun K hK=>?_)
   have hs29 : w28.cell? ⟨gb135,0,none⟩ = some (.int .i64 0):=(blk_cell BK135.out 0).trans rfl
   have hfs29:=blk_frozen BK135.out 0
   have hns29_0:=NB123_135.out;have hms29_0:=NB135_123.out
   have hs30 : w28.cell? ⟨gb135,1,none⟩ = some (.int .i64 0):=(blk_cell BK135.out 1).trans rfl
   have hfs30:=blk_frozen BK135.out 1
   have hns30_0:=NB123_135.out;have hms30_0:=NB135_123.out
   have hs31 : w28.cell? ⟨gb135,2,none⟩ = some (.int .i64 0):=(blk_cell BK135.out 2).trans rfl
   have hfs31:=blk_frozen BK135.out 2
   have hns31_0:=NB123_135.out;have hms31_0:=NB135_123.out
   refine skip_ (w1:=?_) (by rfl) rfl ?_ ?_
   rotate_left
   · go_simp
     rfl
   refine hK.out _ _ ⟨((cell_far (p:=⟨gb135,_,none⟩) (by first|exact Kd.own_blk (Kd.R_ne HO_4.out BK135.out (by decide))|(rw [add_block];exact Kd.own_blk (Kd.R_ne HO_4.out BK135.out (by decide)))|(show (Addr.add _ _).block ≠ _;rw [add_block];exact Kd.own_blk (Kd.R_ne HO_4.out BK135.out (by decide)))|(dsimp only;exact Kd.own_blk (Kd.R_ne HO_4.out BK135.out (by decide)))) _).trans (((cell_far (p:=⟨gb135,_,none⟩) (by first|exact Kd.own_blk (Kd.R_ne HO_4.out BK135.out (by decide))|(rw [add_block];exact Kd.own_blk (Kd.R_ne HO_4.out BK135.out (by decide)))|(show (Addr.add _ _).block ≠ _;rw [add_block];exact Kd.own_blk (Kd.R_ne HO_4.out BK135.out (by decide)))|(dsimp only;exact Kd.own_blk (Kd.R_ne HO_4.out BK135.out (by decide)))) _).trans (((cell_far (p:=⟨gb135,_,none⟩) (by first|exact Kd.own_blk (Kd.R_ne HO_4.out BK135.out (by decide))|(rw [add_block];exact Kd.own_blk (Kd.R_ne HO_4.out BK135.out (by decide)))|(show (Addr.add _ _).block ≠ _;rw [add_block];exact Kd.own_blk (Kd.R_ne HO_4.out BK135.out (by decide)))|(dsimp only;exact Kd.own_blk (Kd.R_ne HO_4.out BK135.out (by decide)))) _).trans (hHeld.1)))))),((cell_far (p:=⟨gb135,_,none⟩) (by first|exact Kd.own_blk (Kd.R_ne HO130.out BK135.out (by decide))|(rw [add_block];exact Kd.own_blk (Kd.R_ne HO130.out BK135.out (by decide)))|(show (Addr.add _ _).block ≠ _;rw [add_block];exact Kd.own_blk (Kd.R_ne HO130.out BK135.out (by decide)))|(dsimp only;exact Kd.own_blk (Kd.R_ne HO130.out BK135.out (by decide)))) _).trans (((cell_far (p:=⟨gb135,_,none⟩) (by first|exact Kd.own_blk (Kd.R_ne HO130.out BK135.out (by decide))|(rw [add_block];exact Kd.own_blk (Kd.R_ne HO130.out BK135.out (by decide)))|(show (Addr.add _ _).block ≠ _;rw [add_block];exact Kd.own_blk (Kd.R_ne HO130.out BK135.out (by decide)))|(dsimp only;exact Kd.own_blk (Kd.R_ne HO130.out BK135.out (by decide)))) _).trans (((cell_far (p:=⟨gb135,_,none⟩) (by first|exact Kd.own_blk (Kd.R_ne HO130.out BK135.out (by decide))|(rw [add_block];exact Kd.own_blk (Kd.R_ne HO130.out BK135.out (by decide)))|(show (Addr.add _ _).block ≠ _;rw [add_block];exact Kd.own_blk (Kd.R_ne HO130.out BK135.out (by decide)))|(dsimp only;exact Kd.own_blk (Kd.R_ne HO130.out BK135.out (by decide)))) _).trans (hHeld.2))))))⟩ (fun hHeld=>?_)
   clear hK K
   refine done_ (done_of HT_.out (by kernel_rfl)) ?_
   have p136 : 0 ≤ (1 : Int):=(by omega)
   have q136 : 1 < (t128.length : Int):=of_decide_eq_true (by first|(with_reducible assumption)|assumption)
   obtain ⟨ad136,e136,hx136_0⟩:=Kd.at_string (Kd.R_reads' HO130.out).2.2 1 p136 q136
   obtain rfl : ad133 = ad136:=(by injection e136)
   (try simp only [show (1 : Int).toNat = 1 from rfl,Nat.reduceMul,Nat.reduceEqDiff,Go.Addr.add,↓reduceIte] at hx136_0)
   have qi136 : (1 < t128.length) = True:=eq_true (by omega)
   (try rw [show ((1 : Int)).toNat = 1 from rfl] at hx136_0)
   have hn136_0 : ad133.block ≠ gb135:=Kd.own_blk (Kd.R_ne HO130.out BK135.out (by decide))
   have hn136_1 : ad133.block ≠ gb135:=Kd.own_blk (Kd.R_ne HO130.out BK135.out (by decide))
   have hn136_2 : ad133.block ≠ gb135:=Kd.own_blk (Kd.R_ne HO130.out BK135.out (by decide))
   replace hx136_0:=(cell_far (p:=⟨gb135,0,none⟩) (by first|(rw [add_block];exact hn136_0)|(show (Addr.add _ _).block ≠ _;rw [add_block];exact hn136_0)|exact hn136_0) (.int .i64 t132)).trans hx136_0
   replace hx136_0:=(cell_far (p:=⟨gb135,1,none⟩) (by first|(rw [add_block];exact hn136_1)|(show (Addr.add _ _).block ≠ _;rw [add_block];exact hn136_1)|exact hn136_1) (.int .i64 t134)).trans hx136_0
   replace hx136_0:=(cell_far (p:=⟨gb135,2,none⟩) (by first|(rw [add_block];exact hn136_2)|(show (Addr.add _ _).block ≠ _;rw [add_block];exact hn136_2)|exact hn136_2) (.int .i64 0)).trans hx136_0
   clear hn136_0 hn136_1 hn136_2
   replace p136:=eq_true p136
   replace q136:=eq_true q136
   try go_wp2_with (first|((with_reducible refine gate_callee (f:=25) rfl ?_);refine goesL_ (some 37) rfl rfl Tryd.func25 (by kernel_rfl) rfl #[.string (rdOf ByteArray.empty t128 1)] rfl (by (try simp only [List.map_toArray,List.map_cons,List.map_nil]);first|done|rfl|(simp only [List.length_drop,List.length_take];rfl)) ?_;(with_reducible refine (spec_l1Read.calls kj2 (rdOf ByteArray.empty t128 1) t137 _ A18.out).mono ?_);rintro e w' ⟨rfl,⟨nd,rfl⟩⟩;refine ⟨_,rfl,?_⟩;have n0_ : Aside0 (Kd.R Kd.string 9 (((w28.setCell ⟨gb135,0,none⟩ (.int .i64 t132)).setCell ⟨gb135,1,none⟩ (.int .i64 t134)).setCell ⟨gb135,2,none⟩ (.int .i64 0)) w.heap.size (fun k_=>some k_ ≠ (.slice (some ad133) t128.length co26 : Value).ownBlock) (.slice (some ad127) t124.length co23) t124):=⟨by (with_reducible repeat (first|apply Kd.R_alloc|apply Kd.R_drewN|apply Kd.R_drew));exact Kd.R_mono (Kd.R_far (p:=⟨gb135,2,none⟩) (Kd.R_far (p:=⟨gb135,1,none⟩) (Kd.R_far (p:=⟨gb135,0,none⟩) (Kd.R_types HO_4.out BK135.out (by decide)) (fun _ hk=>hk.2) (.int .i64 t132)) (fun _ hk=>hk.2) (.int .i64 t134)) (fun _ hk=>hk.2) (.int .i64 0)) (fun _ hk=>hk.1)⟩;have n1_ : Aside0 (Kd.R Kd.string 9 (((w28.setCell ⟨gb135,0,none⟩ (.int .i64 t132)).setCell ⟨gb135,1,none⟩ (.int .i64 t134)).setCell ⟨gb135,2,none⟩ (.int .i64 0)) w.heap.size (fun k_=>some k_ ≠ (.slice (some ad127) t124.length co23 : Value).ownBlock) (.slice (some ad133) t128.length co26) t128):=⟨by (with_reducible repeat (first|apply Kd.R_alloc|apply Kd.R_drewN|apply Kd.R_drew));exact Kd.R_mono (Kd.R_far (p:=⟨gb135,2,none⟩) (Kd.R_far (p:=⟨gb135,1,none⟩) (Kd.R_far (p:=⟨gb135,0,none⟩) (Kd.R_types HO130.out BK135.out (by decide)) (fun _ hk=>hk.2) (.int .i64 t132)) (fun _ hk=>hk.2) (.int .i64 t134)) (fun _ hk=>hk.2) (.int .i64 0)) (fun _ hk=>hk.1)⟩;have n2_ : Aside0 ((((w28.setCell ⟨gb135,0,none⟩ (.int .i64 t132)).setCell ⟨gb135,1,none⟩ (.int .i64 t134)).setCell ⟨gb135,2,none⟩ (.int .i64 0)).heap[gb123]? = some (.cells #[.int .i64 0,.int .i64 0,.int .i64 0] 26 (0,0))):=⟨by (with_reducible repeat (first|refine zD ?_ _|refine zF ?_|refine zE ?_ _));refine blk_far ?_ NB123_135.out _;(with_reducible repeat (first|refine zD ?_ _|refine zF ?_|refine zE ?_ _));refine blk_far ?_ NB123_135.out _;(with_reducible repeat (first|refine zD ?_ _|refine zF ?_|refine zE ?_ _));refine blk_far ?_ NB123_135.out _;(with_reducible repeat (first|refine zD ?_ _|refine zF ?_|refine zE ?_ _));exact BK123.out⟩;have n3_ : Aside0 ((((w28.setCell ⟨gb135,0,none⟩ (.int .i64 t132)).setCell ⟨gb135,1,none⟩ (.int .i64 t134)).setCell ⟨gb135,2,none⟩ (.int .i64 0)).heap[gb135]? = some (.cells #[.int .i64 t132,.int .i64 t134,.int .i64 0] 26 (0,0))):=⟨by (with_reducible repeat (first|refine zD ?_ _|refine zF ?_|refine zE ?_ _));refine blk_put (cs:=#[.int .i64 t132,.int .i64 t134,.int .i64 0]) ?_ 2 _ rfl;(with_reducible repeat (first|refine zD ?_ _|refine zF ?_|refine zE ?_ _));refine blk_put (cs:=#[.int .i64 t132,.int .i64 0,.int .i64 0]) ?_ 1 _ rfl;(with_reducible repeat (first|refine zD ?_ _|refine zF ?_|refine zE ?_ _));refine blk_put (cs:=#[.int .i64 0,.int .i64 0,.int .i64 0]) ?_ 0 _ rfl;(with_reducible repeat (first|refine zD ?_ _|refine zF ?_|refine zE ?_ _));exact BK135.out⟩;have n4_ : Aside0 (Below w.heap.size w (((w28.setCell ⟨gb135,0,none⟩ (.int .i64 t132)).setCell ⟨gb135,1,none⟩ (.int .i64 t134)).setCell ⟨gb135,2,none⟩ (.int .i64 0))):=⟨by repeat (first|(with_reducible first|exact HB.out|apply zJ|apply zG|apply zH|refine zK ?_ GE123.out|refine zK ?_ GE135.out)|exact HB.out)⟩;(try clear HO_4);(try clear HO130);(try clear BK123);(try clear BK135);(try clear HB);generalize (((w28.setCell ⟨gb135,0,none⟩ (.int .i64 t132)).setCell ⟨gb135,1,none⟩ (.int .i64 t134)).setCell ⟨gb135,2,none⟩ (.int .i64 0)) = w32 at n0_ n1_ n2_ n3_ n4_ ⊢;have HO_4:=n0_;have HO130:=n1_;have BK123:=n2_;have BK135:=n3_;have HB:=n4_;clear n0_ n1_ n2_ n3_ n4_;(try (rw [drewN_self w32];generalize hq_ : World.drewN w32 _ = w32;have n0_ : Aside0 (Kd.R Kd.string 9 w32 w.heap.size (fun k_=>some k_ ≠ (.slice (some ad127) t124.length co23 : Value).ownBlock) (.slice (some ad133) t128.length co26) t128):=⟨by rw [← hq_];exact (by (with_reducible repeat (first|apply Kd.R_alloc|apply Kd.R_drewN|apply Kd.R_drew));exact HO130.out)⟩;have n1_ : Aside0 (Kd.R Kd.string 9 w32 w.heap.size (fun k_=>some k_ ≠ (.slice (some ad133) t128.length co26 : Value).ownBlock) (.slice (some ad127) t124.length co23) t124):=⟨by rw [← hq_];exact (by (with_reducible repeat (first|apply Kd.R_alloc|apply Kd.R_drewN|apply Kd.R_drew));exact HO_4.out)⟩;have n2_ : Aside0 (w32.heap[gb123]? = some (.cells #[.int .i64 0,.int .i64 0,.int .i64 0] 26 (0,0))):=⟨by rw [← hq_];exact (by (with_reducible repeat (first|refine zD ?_ _|refine zF ?_|refine zE ?_ _));exact BK123.out)⟩;have n3_ : Aside0 (w32.heap[gb135]? = some (.cells #[.int .i64 t132,.int .i64 t134,.int .i64 0] 26 (0,0))):=⟨by rw [← hq_];exact (by (with_reducible repeat (first|refine zD ?_ _|refine zF ?_|refine zE ?_ _));exact BK135.out)⟩;have n4_ : Aside0 (Below w.heap.size w w32):=⟨by rw [← hq_];exact (by repeat (first|(with_reducible first|exact HB.out|apply zJ|apply zG|apply zH|refine zK ?_ GE123.out|refine zK ?_ GE135.out)|exact HB.out))⟩;clear HO130 HO_4 BK123 BK135 HB hq_;have HO130:=n0_;have HO_4:=n1_;have BK123:=n2_;have BK135:=n3_;have HB:=n4_;clear n0_ n1_ n2_ n3_ n4_));have hnb33:=NB135_123.out;have hnc33:=NB123_135.out;have hcz34_0 : w32.cell? ⟨gb135,0,none⟩ = some (.int .i64 t132):=(blk_cell BK135.out 0).trans rfl;have hcz34_1 : w32.cell? ⟨gb135,1,none⟩ = some (.int .i64 t134):=(blk_cell BK135.out 1).trans rfl;have hcz34_2 : w32.cell? ⟨gb135,2,none⟩ = some (.int .i64 0):=(blk_cell BK135.out 2).trans rfl;have hfz34_0:=blk_frozen BK135.out 0;have hfz34_1:=blk_frozen BK135.out 1;have hfz34_2:=blk_frozen BK135.out 2))
   have n0_ : Aside0 (Kd.R Kd.string 9 (w32.setCell ⟨gb135,2,none⟩ (.int .i64 t137)) w.heap.size (fun k_=>some k_ ≠ (.slice (some ad133) t128.length co26 : Value).ownBlock) (.slice (some ad127) t124.length co23) t124):=⟨by (with_reducible repeat (first|apply Kd.R_alloc|apply Kd.R_drewN|apply Kd.R_drew));exact Kd.R_mono (Kd.R_far (p:=⟨gb135,2,none⟩) (Kd.R_types HO_4.out BK135.out (by decide)) (fun _ hk=>hk.2) (.int .i64 t137)) (fun _ hk=>hk.1)⟩
   have n1_ : Aside0 (Kd.R Kd.string 9 (w32.setCell ⟨gb135,2,none⟩ (.int .i64 t137)) w.heap.size (fun k_=>some k_ ≠ (.slice (some ad127) t124.length co23 : Value).ownBlock) (.slice (some ad133) t128.length co26) t128):=⟨by (with_reducible repeat (first|apply Kd.R_alloc|apply Kd.R_drewN|apply Kd.R_drew));exact Kd.R_mono (Kd.R_far (p:=⟨gb135,2,none⟩) (Kd.R_types HO130.out BK135.out (by decide)) (fun _ hk=>hk.2) (.int .i64 t137)) (fun _ hk=>hk.1)⟩
   have n2_ : Aside0 ((w32.setCell ⟨gb135,2,none⟩ (.int .i64 t137)).heap[gb123]? = some (.cells #[.int .i64 0,.int .i64 0,.int .i64 0] 26 (0,0))):=⟨by (with_reducible repeat (first|refine zD ?_ _|refine zF ?_|refine zE ?_ _));refine blk_far ?_ NB123_135.out _;(with_reducible repeat (first|refine zD ?_ _|refine zF ?_|refine zE ?_ _));exact BK123.out⟩
   have n3_ : Aside0 ((w32.setCell ⟨gb135,2,none⟩ (.int .i64 t137)).heap[gb135]? = some (.cells #[.int .i64 t132,.int .i64 t134,.int .i64 t137] 26 (0,0))):=⟨by (with_reducible repeat (first|refine zD ?_ _|refine zF ?_|refine zE ?_ _));refine blk_put (cs:=#[.int .i64 t132,.int .i64 t134,.int .i64 0]) ?_ 2 _ rfl;(with_reducible repeat (first|refine zD ?_ _|refine zF ?_|refine zE ?_ _));exact BK135.out⟩
   have n4_ : Aside0 (Below w.heap.size w (w32.setCell ⟨gb135,2,none⟩ (.int .i64 t137))):=⟨by repeat (first|(with_reducible first|exact HB.out|apply zJ|apply zG|apply zH|refine zK ?_ GE123.out|refine zK ?_ GE135.out)|exact HB.out)⟩
   (try clear HO_4);(try clear HO130);(try clear BK123);(try clear BK135);(try clear HB)
   generalize (w32.setCell ⟨gb135,2,none⟩ (.int .i64 t137)) = w35 at n0_ n1_ n2_ n3_ n4_ ⊢
   have HO_4:=n0_;have HO130:=n1_;have BK123:=n2_;have BK135:=n3_;have HB:=n4_;clear n0_ n1_ n2_ n3_ n4_
   have n0_:=zI (Kd.R_drew HO_4.out)
   have n1_:=zI (Kd.R_drew HO130.out)
   have n2_:=zI (zF BK123.out)
   have n3_:=zI (zF BK135.out)
   have n4_:=zI (zH HB.out)
   clear HO_4 HO130 BK123 BK135 HB;have HO_4:=n0_;have HO130:=n1_;have BK123:=n2_;have BK135:=n3_;have HB:=n4_;clear n0_ n1_ n2_ n3_ n4_
   refine start_ (n:=16) (S:=fun w'=>w'.cell? ⟨gb135,0,none⟩ = some (.int .i64 t132) ∧ w'.cell? ⟨gb135,1,none⟩ = some (.int .i64 t134) ∧ w'.cell? ⟨gb135,2,none⟩ = some (.int .i64 t137)) (ds:=[]) #[false,false,false,false,false,false,false,false,false,false,false,false,false,false,false,false] (by kernel_rfl) rfl rfl ⟨(blk_cell BK135.out 0).trans rfl,(blk_cell BK135.out 1).trans rfl,(blk_cell BK135.out 2).trans rfl⟩ (fun hHeld=>?_);refine with_tabW spec_rdParse.tab8 spec_rdParse.bits8 (fun HT_ HW_=>?_)
   generalize w35.drew = w36 at HO_4 HO130 BK123 BK135 HB hHeld ⊢
   refine pure_ (i:=1) (N:=some 40) (v:=?_) (a':=?_) #[false,true,false,false,false,false,false,false,false,false,false,false,false,false,false,false] rfl rfl (any_of HT_.out (by kernel_rfl)) (fun _ _ _ h=>h) (Or.inl ⟨by rfl,?_⟩) ?_ ?_
   rotate_left
   · intro w'
     go_simp;with_reducible rfl
   rotate_left
   · simp only [Act.put,zA,zB,zC,i64_w,i32_w]
     rfl
   refine pure_ (i:=2) (N:=some 41) (v:=?_) (a':=?_) #[false,true,true,false,false,false,false,false,false,false,false,false,false,false,false,false] rfl rfl (any_of HT_.out (by kernel_rfl)) (fun _ _ _ h=>h) (Or.inl ⟨by rfl,?_⟩) ?_ ?_
   rotate_left
   · intro w'
     go_simp;with_reducible rfl
   rotate_left
   · simp only [Act.put,zA,zB,zC,i64_w,i32_w]
     rfl
   refine pure_ (i:=3) (N:=some 42) (v:=?_) (a':=?_) #[false,true,true,true,false,false,false,false,false,false,false,false,false,false,false,false] rfl rfl (any_of HT_.out (by kernel_rfl)) (fun _ _ _ h=>h) (Or.inl ⟨by rfl,?_⟩) ?_ ?_
   rotate_left
   · intro w'
     go_simp;with_reducible rfl
   rotate_left
   · simp only [Act.put,zA,zB,zC,i64_w,i32_w]
     rfl
   refine pure_ (i:=4) (N:=some 43) (v:=?_) (a':=?_) #[false,true,true,true,true,false,false,false,false,false,false,false,false,false,false,false] rfl rfl (any_of HT_.out (by kernel_rfl)) (fun _ _ _ h=>h) (Or.inl ⟨by rfl,?_⟩) ?_ ?_
   rotate_left
   · intro w'
     go_simp;with_reducible rfl
   rotate_left
   · simp only [Act.put,zA,zB,zC,i64_w,i32_w]
     rfl
   refine take_ (i:=0) (N:=some 39) (v:=?_) (a':=?_) #[true,true,true,true,true,false,false,false,false,false,false,false,false,false,false,false] rfl rfl (take_ofW HT_.out HW_.out (by kernel_rfl)) (fun _ _ _ h=>h) (Or.inl ⟨by rfl,?_⟩) hHeld ?_ ?_
   rotate_left
   · rintro w' ⟨s0,s1,s2⟩
     go_simp;with_reducible rfl
   rotate_left
   · simp only [Act.put,zA,zB,zC,i64_w,i32_w]
     rfl
   refine take_ (i:=5) (N:=some 44) (v:=?_) (a':=?_) #[true,true,true,true,true,true,false,false,false,false,false,false,false,false,false,false] rfl rfl (take_ofW HT_.out HW_.out (by kernel_rfl)) (fun _ _ _ h=>h) (Or.inl ⟨by rfl,?_⟩) hHeld ?_ ?_
   rotate_left
   · rintro w' ⟨s0,s1,s2⟩
     go_simp;with_reducible rfl
   rotate_left
   · simp only [Act.put,zA,zB,zC,i64_w,i32_w]
     rfl
   refine one_ (i:=6) (N:=some 45) #[true,true,true,true,true,true,true,false,false,false,false,false,false,false,false,false] rfl rfl (one_of HT_.out (by kernel_rfl)) (by decide) (fun K hK=>?_)
   refine goes_ Tryd.func11 (by kernel_rfl) rfl #[.agg #[.int .i64 t132,.int .i64 t134,.int .i64 t137]] (by rfl) rfl rfl (by (try simp only [List.map_toArray,List.map_cons,List.map_nil]);first|done|rfl|(simp only [List.length_drop,List.length_take];rfl)) ?_
   with_reducible refine (spec_rdGood.calls t132 t134 t137 true _ A20.out).mono ?_
   rintro e w37 ⟨rfl,hb⟩
   refine ⟨_,rfl,?_⟩
   have n0_:=zI (Kd.R_below (by (with_reducible repeat (first|apply Kd.R_alloc|apply Kd.R_drewN|apply Kd.R_drew));exact HO_4.out) hb)
   have n1_:=zI (Kd.R_below (by (with_reducible repeat (first|apply Kd.R_alloc|apply Kd.R_drewN|apply Kd.R_drew));exact HO130.out) hb)
   have n2_:=zI (blk_below (g:=gb123) (o:=.cells #[.int .i64 0,.int .i64 0,.int .i64 0] 26 (0,0)) (by (with_reducible repeat (first|refine zD ?_ _|refine zF ?_|refine zE ?_ _));exact BK123.out) hb)
   have n3_:=zI (blk_below (g:=gb135) (o:=.cells #[.int .i64 t132,.int .i64 t134,.int .i64 t137] 26 (0,0)) (by (with_reducible repeat (first|refine zD ?_ _|refine zF ?_|refine zE ?_ _));exact BK135.out) hb)
   have n4_:=zI (below_step (by repeat (first|(with_reducible first|exact HB.out|apply zJ|apply zG|apply zH|refine zK ?_ GE123.out|refine zK ?_ GE135.out)|exact HB.out)) hb)
   clear HO_4 HO130 BK123 BK135 HB;have HO_4:=n0_;have HO130:=n1_;have BK123:=n2_;have BK135:=n3_;have HB:=n4_;clear n0_ n1_ n2_ n3_ n4_;(try clear hb);(try clear hb2);(try clear hk);(try clear hi)
   refine hK.out _ _ ⟨(blk_cell BK135.out 0).trans rfl,(blk_cell BK135.out 1).trans rfl,(blk_cell BK135.out 2).trans rfl⟩ (fun hHeld=>?_)
   clear hK K
   refine norm_ (a':=?_) ?_ ?_
   rotate_left
   · show Act.put _ (some 45) _ = _
     simp only [Act.put,zA,zB,zC,i64_w,i32_w]
     rfl
   refine pure_ (i:=7) (N:=some 46) (v:=?_) (a':=?_) #[true,true,true,true,true,true,true,true,false,false,false,false,false,false,false,false] rfl rfl (any_of HT_.out (by kernel_rfl)) (fun _ _ _ h=>h) (Or.inl ⟨by rfl,?_⟩) ?_ ?_
   rotate_left
   · intro w'
     go_simp;with_reducible rfl
   rotate_left
   · simp only [Act.put,zA,zB,zC,i64_w,i32_w]
     rfl
   refine pure_ (i:=8) (N:=some 47) (v:=?_) (a':=?_) #[true,true,true,true,true,true,true,true,true,false,false,false,false,false,false,false] rfl rfl (any_of HT_.out (by kernel_rfl)) (fun _ _ _ h=>h) (Or.inl ⟨by rfl,?_⟩) ?_ ?_
   rotate_left
   · intro w'
     go_simp;with_reducible rfl
   rotate_left
   · simp only [Act.put,zA,zB,zC,i64_w,i32_w]
     rfl
   refine pure_ (i:=11) (N:=some 50) (v:=?_) (a':=?_) #[true,true,true,true,true,true,true,true,true,false,false,true,false,false,false,false] rfl rfl (any_of HT_.out (by kernel_rfl)) (fun _ _ _ h=>h) (Or.inl ⟨by rfl,?_⟩) ?_ ?_
   rotate_left
   · intro w'
     go_simp;with_reducible rfl
   rotate_left
   · simp only [Act.put,zA,zB,zC,i64_w,i32_w]
     rfl
   refine take_ (i:=9) (N:=some 48) (v:=?_) (a':=?_) #[true,true,true,true,true,true,true,true,true,true,false,true,false,false,false,false] rfl rfl (take_ofW HT_.out HW_.out (by kernel_rfl)) (fun _ _ _ h=>h) (Or.inl ⟨by rfl,?_⟩) hHeld ?_ ?_
   rotate_left
   · rintro w' ⟨s0,s1,s2⟩
     go_simp;with_reducible rfl
   rotate_left
   · simp only [Act.put,zA,zB,zC,i64_w,i32_w]
     rfl
   refine one_ (i:=10) (N:=some 49) #[true,true,true,true,true,true,true,true,true,true,true,true,false,false,false,false] rfl rfl (one_of HT_.out (by kernel_rfl)) (by decide) (fun K hK=>?_)
   refine goes_ Tryd.func12 (by kernel_rfl) rfl #[.agg #[.int .i64 t132,.int .i64 t134,.int .i64 t137]] (by rfl) rfl rfl (by (try simp only [List.map_toArray,List.map_cons,List.map_nil]);first|done|rfl|(simp only [List.length_drop,List.length_take];rfl)) ?_
   with_reducible refine (spec_rdText.calls kj2 t132 t134 t137 t139 _ A22.out).mono ?_
   rintro e w38 ⟨rfl,hb⟩
   refine ⟨_,rfl,?_⟩
   have n0_:=zI (Kd.R_below (by (with_reducible repeat (first|apply Kd.R_alloc|apply Kd.R_drewN|apply Kd.R_drew));exact HO_4.out) hb)
   have n1_:=zI (Kd.R_below (by (with_reducible repeat (first|apply Kd.R_alloc|apply Kd.R_drewN|apply Kd.R_drew));exact HO130.out) hb)
   have n2_:=zI (blk_below (g:=gb123) (o:=.cells #[.int .i64 0,.int .i64 0,.int .i64 0] 26 (0,0)) (by (with_reducible repeat (first|refine zD ?_ _|refine zF ?_|refine zE ?_ _));exact BK123.out) hb)
   have n3_:=zI (blk_below (g:=gb135) (o:=.cells #[.int .i64 t132,.int .i64 t134,.int .i64 t137] 26 (0,0)) (by (with_reducible repeat (first|refine zD ?_ _|refine zF ?_|refine zE ?_ _));exact BK135.out) hb)
   have n4_:=zI (below_step (by repeat (first|(with_reducible first|exact HB.out|apply zJ|apply zG|apply zH|refine zK ?_ GE123.out|refine zK ?_ GE135.out)|exact HB.out)) hb)
   clear HO_4 HO130 BK123 BK135 HB;have HO_4:=n0_;have HO130:=n1_;have BK123:=n2_;have BK135:=n3_;have HB:=n4_;clear n0_ n1_ n2_ n3_ n4_;(try clear hb);(try clear hb2);(try clear hk);(try clear hi)
   refine hK.out _ _ ⟨(blk_cell BK135.out 0).trans rfl,(blk_cell BK135.out 1).trans rfl,(blk_cell BK135.out 2).trans rfl⟩ (fun hHeld=>?_)
   clear hK K
   refine norm_ (a':=?_) ?_ ?_
   rotate_left
   · show Act.put _ (some 49) _ = _
     simp only [Act.put,zA,zB,zC,i64_w,i32_w]
     rfl
   refine pure_ (i:=12) (N:=some 51) (v:=?_) (a':=?_) #[true,true,true,true,true,true,true,true,true,true,true,true,true,false,false,false] rfl rfl (any_of HT_.out (by kernel_rfl)) (fun _ _ _ h=>h) (Or.inl ⟨by rfl,?_⟩) ?_ ?_
   rotate_left
   · intro w'
     go_simp;with_reducible rfl
   rotate_left
   · simp only [Act.put,zA,zB,zC,i64_w,i32_w]
     rfl
   refine pure_ (i:=13) (N:=some 52) (v:=?_) (a':=?_) #[true,true,true,true,true,true,true,true,true,true,true,true,true,true,false,false] rfl rfl (any_of HT_.out (by kernel_rfl)) (fun _ _ _ h=>h) (Or.inl ⟨by rfl,?_⟩) ?_ ?_
   rotate_left
   · intro w'
     go_simp;with_reducible rfl
   rotate_left
   · simp only [Act.put,zA,zB,zC,i64_w,i32_w]
     rfl
   refine one_ (i:=14) (N:=none) #[true,true,true,true,true,true,true,true,true,true,true,true,true,true,true,false] rfl rfl (one_of HT_.out (by kernel_rfl)) (by decide) (fun K hK=>?_)
   have hs39 : w38.cell? ⟨gb123,0,none⟩ = some (.int .i64 0):=(blk_cell BK123.out 0).trans rfl
   have hfs39:=blk_frozen BK123.out 0
   have hns39_1:=NB135_123.out;have hms39_1:=NB123_135.out
   have hs40 : w38.cell? ⟨gb123,1,none⟩ = some (.int .i64 0):=(blk_cell BK123.out 1).trans rfl
   have hfs40:=blk_frozen BK123.out 1
   have hns40_1:=NB135_123.out;have hms40_1:=NB123_135.out
   have hs41 : w38.cell? ⟨gb123,2,none⟩ = some (.int .i64 0):=(blk_cell BK123.out 2).trans rfl
   have hfs41:=blk_frozen BK123.out 2
   have hns41_1:=NB135_123.out;have hms41_1:=NB123_135.out
   refine skip_ (w1:=?_) (by rfl) rfl ?_ ?_
   rotate_left
   · go_simp
     rfl
   refine hK.out _ _ ⟨((cell_far (p:=⟨gb123,_,none⟩) NB135_123.out _).trans (((cell_far (p:=⟨gb123,_,none⟩) NB135_123.out _).trans (((cell_far (p:=⟨gb123,_,none⟩) NB135_123.out _).trans (hHeld.1)))))),((cell_far (p:=⟨gb123,_,none⟩) NB135_123.out _).trans (((cell_far (p:=⟨gb123,_,none⟩) NB135_123.out _).trans (((cell_far (p:=⟨gb123,_,none⟩) NB135_123.out _).trans (hHeld.2.1)))))),((cell_far (p:=⟨gb123,_,none⟩) NB135_123.out _).trans (((cell_far (p:=⟨gb123,_,none⟩) NB135_123.out _).trans (((cell_far (p:=⟨gb123,_,none⟩) NB135_123.out _).trans (hHeld.2.2))))))⟩ (fun hHeld=>?_)
   clear hK K
   refine pure_ (i:=15) (N:=some 3) (v:=?_) (a':=?_) #[true,true,true,true,true,true,true,true,true,true,true,true,true,true,true,true] rfl rfl (any_of HT_.out (by kernel_rfl)) (fun _ _ _ h=>h) (Or.inl ⟨by rfl,?_⟩) ?_ ?_
   rotate_left
   · intro w'
     go_simp;with_reducible rfl
   rotate_left
   · simp only [Act.put,zA,zB,zC,i64_w,i32_w]
     rfl
   refine done_ (done_of HT_.out (by kernel_rfl)) ?_
   try go_wp2
   refine bodyPost_ret (results_ct rfl _ _ gb123 26 #[.int .i64 t132,.int .i64 t134,.int .i64 t137] (0,0) _ rfl (by (with_reducible repeat (first|refine zD ?_ _|refine zF ?_|refine zE ?_ _));refine blk_put (cs:=#[.int .i64 t132,.int .i64 t134,.int .i64 0]) ?_ 2 _ rfl;(with_reducible repeat (first|refine zD ?_ _|refine zF ?_|refine zE ?_ _));refine blk_put (cs:=#[.int .i64 t132,.int .i64 0,.int .i64 0]) ?_ 1 _ rfl;(with_reducible repeat (first|refine zD ?_ _|refine zF ?_|refine zE ?_ _));refine blk_put (cs:=#[.int .i64 0,.int .i64 0,.int .i64 0]) ?_ 0 _ rfl;(with_reducible repeat (first|refine zD ?_ _|refine zF ?_|refine zE ?_ _));exact BK123.out) Tryd.underlying26 rfl (by kernel_rfl)) rfl ?_
   exact ⟨by first|rfl|(simp [errW_none,errW_some] <;> rfl)|(simp [*,errW_none,errW_some] <;> rfl),by repeat (first|(with_reducible first|exact HB.out|apply zJ|apply zG|apply zH|refine zK ?_ GE123.out|refine zK ?_ GE135.out)|exact HB.out)⟩

end Go.Proofs.YtnlbcfeblkafjaaDoor.XFnExactParseReader
