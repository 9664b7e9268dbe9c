/- The plain law behind FnExactLongestWorm, in lists and numbers alone: the program's and the reference's longest way of a worm are one. No condition beyond the printed bounds. -/
import Derived.Test.YtiedpggapckieaaXFnExactLongestWormx5
set_option linter.unusedVariables false
set_option linter.unusedSimpArgs false
namespace Go.Proofs.Ytiedpggapckieaa.Pure
open Go.RowKit Go.Proofs.Ytiedpggapckieaa.XFnExactLongestWorm Go.Proofs.YtiedpggapckieaaW.PrintWords Go.Proofs.YtiedpggapckieaaW.PrintLast Go.Proofs.YtiedpggapckieaaW.PrintMore
/-! ### Small words: rounds, reads, sums without a wrap. -/
theorem ev_some {α β : Type} {g : Option α} {f : Nat → α → Option β} {a : α} {r : β} (h : g = some a) (k : Ev (fun n => f n a) r) : Ev (fun n => g.bind (f n)) r := by
  subst h
  exact k
theorem ev_ret {α : Type} {r s : α} (h : r = s) : Ev (fun _ => some r) s := by
  subst h
  exact Ev.now r
theorem ev_map {α β : Type} {g : Nat → Option α} {f : α → β} {a : α} {r : β} (h : Ev g a) (e : f a = r) : Ev (fun n => (g n).bind fun t => some (f t)) r := Ev.bind h (ev_ret e)
theorem ev_eq {α : Type} {g f : Nat → Option α} {r : α} (h : g = f) (k : Ev f r) : Ev g r := by
  rw [h]
  exact k
theorem w64 {x : Int} (h0 : -9223372036854775808 ≤ x) (h1 : x ≤ 9223372036854775807) : wrap64 x = x := by
  unfold wrap64
  omega
theorem w64s {i : Nat} (h : i < 4611686018427387904) : wrap64 ((i : Int) + 1) = ((i + 1 : Nat) : Int) := by
  rw [w64 (by omega) (by omega)]
  rfl
theorem rd_nat (l : List Int) (i : Nat) (h : i < l.length) : rd l (i : Int) = l[i] := by
  unfold rd
  rw [Int.toNat_natCast, List.getD_eq_getElem?_getD, List.getElem?_eq_getElem h]
  rfl
theorem wf_i64 {x : Int} (h : (Lit.int .i64 x).wf = true) : -9223372036854775808 ≤ x ∧ x ≤ 9223372036854775807 := by
  simp only [Lit.wf, Bool.and_eq_true, decide_eq_true_eq] at h
  exact h
theorem ev_succ {α : Type} {g : Nat → Option α} {r : α} (h : Ev (fun k => g (k + 1)) r) : Ev g r := Ev.step (fun _ => rfl) h
theorem neg_no (n : Nat) : ¬ (1 + (n : Int) < 0) := by omega
theorem ev_if {α : Type} {c : Prop} [Decidable c] {g f : Nat → Option α} {r : α} (h : c) (k : Ev g r) : Ev (fun n => if c then g n else f n) r := Ev.congr (fun _ => if_pos h) k
theorem ev_else {α : Type} {c : Prop} [Decidable c] {g f : Nat → Option α} {r : α} (h : ¬ c) (k : Ev f r) : Ev (fun n => if c then g n else f n) r := Ev.congr (fun _ => if_neg h) k

theorem set_app {α : Type} (a b : List α) (x y : α) (n : Nat) (h : n = a.length) : (a ++ x :: b).set n y = a ++ y :: b := by
  subst h
  simp

theorem laws_toIntS_ev (l : List Int) (hl : l.length ≤ 1048576) : Ev (fun k => laws_toIntS.f k l) l := by
  have key : ∀ (d i : Nat), i + d = l.length → Ev (fun k => laws_toIntS.l0 k l (l.take i ++ List.replicate d 0) (i : Int)) l := by
    intro d
    induction d with
    | zero =>
      intro i h
      refine ev_succ ?_
      simp only [laws_toIntS.l0]
      refine ev_else (by omega) ?_
      refine ev_ret ?_
      rw [List.take_of_length_le (by omega)]
      simp
    | succ d ih =>
      intro i h
      have hi' : i < l.length := by omega
      refine Ev.step (f := fun k => laws_toIntS.l0 k l (l.take (i + 1) ++ List.replicate d 0) ((i + 1 : Nat) : Int)) (fun k => ?_) (ih (i + 1) (by omega))
      simp only [laws_toIntS.l0]
      rw [if_pos (by omega), if_pos (by omega), if_pos (by simp; omega), rd_nat l i hi', w64s (by omega), Int.toNat_natCast, List.replicate_succ, set_app _ _ _ _ _ (by simp; omega), List.take_succ_eq_append_getElem hi']
      simp only [List.append_assoc, List.cons_append, List.nil_append]
  refine ev_eq (f := fun k => laws_toIntS.l0 k l (l.take 0 ++ List.replicate l.length 0) ((0 : Nat) : Int)) ?_ (key l.length 0 (by omega))
  funext k
  simp only [laws_toIntS.f]
  rw [if_pos (by omega), if_pos (by omega)]
  simp

theorem laws_eqIntS_ev (a b : List Int) (hl : a.length ≤ 4611686018427387903) : Ev (fun k => laws_eqIntS.f k a b) (decide (a = b)) := by
  by_cases hlen : a.length = b.length
  · have key : ∀ (d i : Nat), i + d = a.length → Ev (fun k => laws_eqIntS.l0 k a b (i : Int)) (decide (a.drop i = b.drop i)) := by
      intro d
      induction d with
      | zero =>
        intro i h
        rw [List.drop_eq_nil_of_le (by omega), List.drop_eq_nil_of_le (by omega)]
        refine ev_succ ?_
        simp only [laws_eqIntS.l0]
        refine ev_else (by omega) ?_
        exact ev_ret (by simp)
      | succ d ih =>
        intro i h
        have h1 : i < a.length := by omega
        have h2 : i < b.length := by omega
        rw [List.drop_eq_getElem_cons h1, List.drop_eq_getElem_cons h2]
        refine Ev.step (f := fun k => if a[i] = b[i] then laws_eqIntS.l0 k a b ((i + 1 : Nat) : Int) else some false) (fun k => by simp only [laws_eqIntS.l0]; rw [if_pos (by omega), if_pos (by omega), if_pos (by omega), rd_nat a i h1, rd_nat b i h2, w64s (by omega)]) ?_
        by_cases c : a[i] = b[i]
        · simp only [c, if_true, List.cons.injEq, true_and]
          exact ih (i + 1) (by omega)
        · simp only [c, if_false, List.cons.injEq, false_and, decide_false]
          exact Ev.now _
    refine ev_eq (f := fun k => laws_eqIntS.l0 k a b ((0 : Nat) : Int)) ?_ (key a.length 0 (by omega))
    funext k
    simp only [laws_eqIntS.f]
    rw [if_pos (by omega)]
    rfl
  · refine ev_eq (f := fun _ => some false) ?_ (ev_ret (by simp; intro h; exact hlen (by rw [h])))
    funext k
    simp only [laws_eqIntS.f]
    rw [if_neg (by omega)]

theorem spec_l1In_eq (x lo hi : Int) : spec_l1In.f x lo hi = some (decide (lo ≤ x ∧ x ≤ hi)) := by
  unfold spec_l1In.f
  by_cases c : x ≥ lo
  · rw [if_pos c]
    congr 1
    simp only [c, true_and]
  · rw [if_neg c]
    congr 1
    exact (decide_eq_false (fun h => c h.1)).symm

theorem spec_l1All_ev (lo hi : Int) (l : List Int) (hl : l.length ≤ 4611686018427387903) : Ev (fun k => spec_l1All.f k l lo hi) (l.all fun x => decide (lo ≤ x ∧ x ≤ hi)) := by
  have key : ∀ (d i : Nat), i + d = l.length → Ev (fun k => spec_l1All.l0 k lo hi l (l.length : Int) (i : Int)) ((l.drop i).all fun x => decide (lo ≤ x ∧ x ≤ hi)) := by
    intro d
    induction d with
    | zero =>
      intro i h
      rw [List.drop_eq_nil_of_le (by omega)]
      exact Ev.step (f := fun _ => some true) (fun k => by simp only [spec_l1All.l0]; rw [if_neg (by omega)]) (Ev.now _)
    | succ d ih =>
      intro i h
      have hi' : i < l.length := by omega
      rw [List.drop_eq_getElem_cons hi', List.all_cons]
      refine Ev.step (f := fun k => (spec_l1In.f l[i] lo hi).bind fun t => if t = true then spec_l1All.l0 k lo hi l (l.length : Int) ((i + 1 : Nat) : Int) else some false) (fun k => by simp only [spec_l1All.l0]; rw [if_pos (by omega), if_pos (by omega), if_pos (by omega), rd_nat l i hi', w64s (by omega)]) ?_
      refine ev_some (spec_l1In_eq _ _ _) ?_
      by_cases c : lo ≤ l[i] ∧ l[i] ≤ hi
      · simp only [c, and_self, decide_true, if_true, Bool.true_and]
        exact ih (i + 1) (by omega)
      · simp only [c, decide_false, Bool.false_and, Bool.false_eq_true, if_false]
        exact Ev.now _
  exact key l.length 0 (by omega)

theorem impl_within_eq (x lo hi : Int) : impl_within.f x lo hi = some (decide (lo ≤ x ∧ x ≤ hi)) := by
  unfold impl_within.f
  by_cases c : x ≥ lo
  · rw [if_pos c]
    congr 1
    simp only [c, true_and]
  · rw [if_neg c]
    congr 1
    exact (decide_eq_false (fun h => c h.1)).symm

theorem impl_allWithin_ev (lo hi : Int) (l : List Int) (hl : l.length ≤ 4611686018427387903) : Ev (fun k => impl_allWithin.f k l lo hi) (l.all fun x => decide (lo ≤ x ∧ x ≤ hi)) := by
  have key : ∀ (d i : Nat), i + d = l.length → Ev (fun k => impl_allWithin.l0 k lo hi l (l.length : Int) (i : Int)) ((l.drop i).all fun x => decide (lo ≤ x ∧ x ≤ hi)) := by
    intro d
    induction d with
    | zero =>
      intro i h
      rw [List.drop_eq_nil_of_le (by omega)]
      exact Ev.step (f := fun _ => some true) (fun k => by simp only [impl_allWithin.l0]; rw [if_neg (by omega)]) (Ev.now _)
    | succ d ih =>
      intro i h
      have hi' : i < l.length := by omega
      rw [List.drop_eq_getElem_cons hi', List.all_cons]
      refine Ev.step (f := fun k => (impl_within.f l[i] lo hi).bind fun t => if t = true then impl_allWithin.l0 k lo hi l (l.length : Int) ((i + 1 : Nat) : Int) else some false) (fun k => by simp only [impl_allWithin.l0]; rw [if_pos (by omega), if_pos (by omega), if_pos (by omega), rd_nat l i hi', w64s (by omega)]) ?_
      refine ev_some (impl_within_eq _ _ _) ?_
      by_cases c : lo ≤ l[i] ∧ l[i] ≤ hi
      · simp only [c, and_self, decide_true, if_true, Bool.true_and]
        exact ih (i + 1) (by omega)
      · simp only [c, decide_false, Bool.false_and, Bool.false_eq_true, if_false]
        exact Ev.now _
  exact key l.length 0 (by omega)

theorem laws_szShelf_ok (l : List Int) (c : Int) (h : l.length ≤ 1048576) : laws_szShelf.f l c 1048576 = some (1048576 - (l.length : Int)) := by
  simp only [laws_szShelf.f, laws_szIntS.f]
  rw [w64 (by omega) (by omega), if_neg (by omega)]
  simp only [Option.bind_some]
  rw [if_neg (by omega)]
theorem laws_szShelf_no (l : List Int) (c : Int) (h : ¬ l.length ≤ 1048576) (hm : l.length ≤ maxLen) : laws_szShelf.f l c 1048576 = some (-1) := by
  unfold maxLen at hm
  simp only [laws_szShelf.f, laws_szIntS.f]
  rw [w64 (by omega) (by omega), if_pos (by omega)]
  simp
theorem laws_toShelf_ev (l : List Int) (c : Int) (h : l.length ≤ 1048576) : Ev (fun k => laws_toShelf.f k l c) (l, c) := by
  simp only [laws_toShelf.f]
  exact ev_map (laws_toIntS_ev l h) rfl
theorem laws_eqShelf_ev (l : List Int) (c : Int) (h : l.length ≤ 1048576) : Ev (fun k => laws_eqShelf.f k l c l c) true := by
  simp only [laws_eqShelf.f]
  refine Ev.bind (laws_eqIntS_ev l l (by omega)) ?_
  simp only [decide_true, if_true]
  exact Ev.now _
def shOk (l : List Int) (c : Int) : Bool := decide (1 ≤ (l.length : Int) ∧ (l.length : Int) ≤ 8) && ((l.all fun x => decide (1 ≤ x ∧ x ≤ 100)) && decide (0 ≤ c ∧ c ≤ 10))
theorem shOk_len {l : List Int} {c : Int} (h : shOk l c = true) : 1 ≤ l.length ∧ l.length ≤ 8 := by
  simp only [shOk, Bool.and_eq_true, decide_eq_true_eq] at h
  omega
theorem shOk_all {l : List Int} {c : Int} (h : shOk l c = true) : ∀ x ∈ l, 1 ≤ x ∧ x ≤ 100 := by
  simp only [shOk, Bool.and_eq_true, List.all_eq_true, decide_eq_true_eq] at h
  exact h.2.1
theorem shOk_cover {l : List Int} {c : Int} (h : shOk l c = true) : 0 ≤ c ∧ c ≤ 10 := by
  simp only [shOk, Bool.and_eq_true, decide_eq_true_eq] at h
  exact h.2.2
theorem spec_shGood_ev (l : List Int) (c : Int) (hl : l.length ≤ 1048576) : Ev (fun k => spec_shGood.f k l c) (shOk l c) := by
  simp only [spec_shGood.f, shOk]
  refine ev_some (spec_l1In_eq _ _ _) ?_
  by_cases a : 1 ≤ (l.length : Int) ∧ (l.length : Int) ≤ 8
  · simp only [a, and_self, decide_true, if_true, Bool.true_and]
    refine Ev.bind (spec_l1All_ev 1 100 l (by omega)) ?_
    by_cases b : (l.all fun x => decide (1 ≤ x ∧ x ≤ 100)) = true
    · simp only [b, if_true, Bool.true_and]
      refine ev_some (spec_l1In_eq _ _ _) ?_
      exact Ev.now _
    · simp only [b, Bool.false_eq_true, if_false, Bool.false_and]
      exact Ev.now _
  · simp only [a, decide_false, Bool.false_and, Bool.false_eq_true, if_false]
    exact Ev.now _
theorem impl_IsShelf_ev (l : List Int) (c : Int) (hl : l.length ≤ 1048576) : Ev (fun k => impl_IsShelf.f k l c) (shOk l c) := by
  simp only [impl_IsShelf.f, shOk]
  refine ev_some (impl_within_eq _ _ _) ?_
  by_cases a : 1 ≤ (l.length : Int) ∧ (l.length : Int) ≤ 8
  · simp only [a, and_self, decide_true, if_true, Bool.true_and]
    refine Ev.bind (impl_allWithin_ev 1 100 l (by omega)) ?_
    by_cases b : (l.all fun x => decide (1 ≤ x ∧ x ≤ 100)) = true
    · simp only [b, if_true, Bool.true_and]
      refine ev_some (impl_within_eq _ _ _) ?_
      exact Ev.now _
    · simp only [b, Bool.false_eq_true, if_false, Bool.false_and]
      exact Ev.now _
  · simp only [a, decide_false, Bool.false_and, Bool.false_eq_true, if_false]
    exact Ev.now _

theorem impl_width_eq (l : List Int) (c : Int) (h : shOk l c = true) (i : Nat) (hi : i < l.length) : impl_Shelf_width.f l c (i : Int) = some (l[i] + 2 * c) := by
  have hc := shOk_cover h
  have hx := shOk_all h l[i] (List.getElem_mem hi)
  simp only [impl_Shelf_width.f]
  rw [if_pos (by omega), if_pos (by omega), rd_nat l i hi, w64 (x := 2 * c) (by omega) (by omega), w64 (by omega) (by omega)]

/-- How wide volumes are together. -/
def lf (c : Int) : List Int → Int
  | [] => 0
  | x :: l => x + 2 * c + lf c l
theorem lf_app (c : Int) : ∀ (a b : List Int), lf c (a ++ b) = lf c a + lf c b
  | [], b => by simp [lf]
  | x :: a, b => by simp only [List.cons_append, lf, lf_app c a b]; omega
theorem lf_succ (c : Int) (l : List Int) (i : Nat) (h : i < l.length) : lf c (l.take (i + 1)) = lf c (l.take i) + (l[i] + 2 * c) := by
  rw [List.take_succ_eq_append_getElem h, lf_app]
  simp [lf]
theorem lf_bd (c : Int) (hc : 0 ≤ c ∧ c ≤ 10) : ∀ (l : List Int), (∀ x ∈ l, 1 ≤ x ∧ x ≤ 100) → 0 ≤ lf c l ∧ lf c l ≤ 120 * (l.length : Int)
  | [], _ => by simp [lf]
  | x :: l, h => by
    have h1 := lf_bd c hc l (fun y hy => h y (List.mem_cons_of_mem _ hy))
    have h2 := h x List.mem_cons_self
    simp only [lf, List.length_cons]
    omega
theorem lf_take_bd {l : List Int} {c : Int} (h : shOk l c = true) (i : Nat) : 0 ≤ lf c (l.take i) ∧ lf c (l.take i) ≤ 960 := by
  have h1 := lf_bd c (shOk_cover h) (l.take i) (fun x hx => shOk_all h x (List.mem_of_mem_take hx))
  have h2 := shOk_len h
  rw [List.length_take] at h1
  omega
theorem spec_shLeft_ev (l : List Int) (c : Int) (h : shOk l c = true) (n : Nat) (hn : n ≤ l.length) : Ev (fun k => spec_shLeft.f k l c (n : Int)) (lf c (l.take n)) := by
  have hc := shOk_cover h
  have hlen := shOk_len h
  have key : ∀ (d i : Nat), i + d = n → Ev (fun k => spec_shLeft.l0 k (lf c (l.take i)) (l.take n) ((l.take n).length : Int) (i : Int) l c) (lf c (l.take n)) := by
    intro d
    induction d with
    | zero =>
      intro i hi
      refine ev_succ ?_
      simp only [spec_shLeft.l0]
      refine ev_else (by rw [List.length_take]; omega) ?_
      exact ev_ret (by rw [show i = n by omega])
    | succ d ih =>
      intro i hi
      have h1 : i < l.length := by omega
      have hx := shOk_all h l[i] (List.getElem_mem h1)
      have hb := lf_take_bd h i
      have hr : rd (l.take n) (i : Int) = l[i] := by
        rw [rd_nat (l.take n) i (by rw [List.length_take]; omega), List.getElem_take]
      refine ev_succ ?_
      simp only [spec_shLeft.l0]
      refine ev_if (by rw [List.length_take]; omega) ?_
      refine ev_if (by omega) ?_
      refine ev_if (by rw [List.length_take]; omega) ?_
      rw [hr, w64s (by omega), w64 (x := 2 * c) (by omega) (by omega), w64 (x := l[i] + 2 * c) (by omega) (by omega), w64 (by omega) (by omega), ← lf_succ c l i h1]
      exact ih (i + 1) (by omega)
  simp only [spec_shLeft.f]
  refine ev_if (by omega) ?_
  refine ev_if (by omega) ?_
  rw [Int.toNat_natCast]
  exact key n 0 (by omega)
theorem impl_left_ev (l : List Int) (c : Int) (h : shOk l c = true) (n : Nat) (hn : n ≤ l.length) : Ev (fun k => impl_Shelf_left.f k l c (n : Int)) (lf c (l.take n)) := by
  have hc := shOk_cover h
  have hlen := shOk_len h
  have key : ∀ (d i : Nat), i + d = n → Ev (fun k => impl_Shelf_left.l0 k (lf c (l.take i)) (n : Int) (i : Int) l c) (lf c (l.take n)) := by
    intro d
    induction d with
    | zero =>
      intro i hi
      refine ev_succ ?_
      simp only [impl_Shelf_left.l0]
      refine ev_else (by omega) ?_
      exact ev_ret (by rw [show i = n by omega])
    | succ d ih =>
      intro i hi
      have h1 : i < l.length := by omega
      have hx := shOk_all h l[i] (List.getElem_mem h1)
      have hb := lf_take_bd h i
      refine ev_succ ?_
      simp only [impl_Shelf_left.l0]
      refine ev_if (by omega) ?_
      refine ev_some (impl_width_eq l c h i h1) ?_
      rw [w64s (by omega), w64 (by omega) (by omega), ← lf_succ c l i h1]
      exact ih (i + 1) (by omega)
  exact key n 0 (by omega)

/-- Where the face of the first or the last page of a volume is. -/
def fc (l : List Int) (c : Int) (v : Nat) (last : Bool) : Int := lf c (l.take v) + c + (if last = true then 0 else rd l (v : Int))
theorem fc_bd {l : List Int} {c : Int} (h : shOk l c = true) (v : Nat) (hv : v < l.length) (last : Bool) : 0 ≤ fc l c v last ∧ fc l c v last ≤ 1070 := by
  have h1 := lf_take_bd h v
  have h2 := shOk_cover h
  have h3 := shOk_all h l[v] (List.getElem_mem hv)
  unfold fc
  rw [rd_nat l v hv]
  split <;> omega
theorem spec_shFace_ev (l : List Int) (c : Int) (h : shOk l c = true) (v : Nat) (hv : v < l.length) (last : Bool) : Ev (fun k => spec_shFace.f k l c (v : Int) last) (fc l c v last) := by
  have h1 := lf_take_bd h v
  have h2 := shOk_cover h
  have h3 := shOk_all h l[v] (List.getElem_mem hv)
  simp only [spec_shFace.f]
  refine Ev.bind (spec_shLeft_ev l c h v (by omega)) ?_
  unfold fc
  rw [rd_nat l v hv, w64 (x := lf c (l.take v) + c) (by omega) (by omega), w64 (by omega) (by omega)]
  by_cases e : last = true
  · refine ev_if e ?_
    rw [if_pos e, Int.add_zero]
    exact Ev.now _
  · refine ev_else e ?_
    refine ev_if (by omega) ?_
    refine ev_if (by omega) ?_
    rw [if_neg e]
    exact Ev.now _
theorem impl_face_ev (l : List Int) (c : Int) (h : shOk l c = true) (v : Nat) (hv : v < l.length) (last : Bool) : Ev (fun k => impl_Shelf_face.f k l c (v : Int) last) (fc l c v last) := by
  have h1 := lf_take_bd h v
  have h2 := shOk_cover h
  have h3 := shOk_all h l[v] (List.getElem_mem hv)
  have h4 := shOk_len h
  have h5 := lf_succ c l v hv
  simp only [impl_Shelf_face.f]
  unfold fc
  rw [rd_nat l v hv]
  by_cases e : last = true
  · refine ev_if e ?_
    rw [if_pos e, Int.add_zero]
    refine Ev.bind (impl_left_ev l c h v (by omega)) ?_
    rw [w64 (by omega) (by omega)]
    exact Ev.now _
  · refine ev_else e ?_
    rw [if_neg e, w64s (by omega)]
    refine Ev.bind (impl_left_ev l c h (v + 1) (by omega)) ?_
    rw [w64 (by omega) (by omega)]
    exact ev_ret (by omega)

theorem impl_has_ev (l : List Int) (c : Int) (vs : List Int) (hl : l.length ≤ 1048576) (hv : vs.length ≤ 2) : Ev (fun k => impl_Shelf_has.f k l c vs) (vs.all fun v => decide (0 ≤ v ∧ v ≤ (l.length : Int) - 1)) := by
  simp only [impl_Shelf_has.f]
  rw [w64 (by omega) (by omega)]
  exact ev_map (impl_allWithin_ev 0 ((l.length : Int) - 1) vs (by omega)) rfl

theorem spec_l1Abs_eq (x : Int) (h : -100000 ≤ x ∧ x ≤ 100000) : spec_l1Abs.f x = some (mx x (-x)) := by
  simp only [spec_l1Abs.f, spec_l1Most.f]
  rw [w64 (by omega) (by omega)]
  unfold mx
  by_cases c : x > -x
  · rw [if_pos c, if_neg (by omega)]
    rfl
  · rw [if_neg c]
    by_cases d : x < -x
    · rw [if_pos d]
      rfl
    · rw [if_neg d]
      simp only [Option.bind_some]
      congr 1
      omega
/-- How far a worm goes. -/
def far (l : List Int) (c : Int) (a : Nat) (la : Bool) (b : Nat) (lb : Bool) : Int := mx (fc l c a la - fc l c b lb) (-(fc l c a la - fc l c b lb))
theorem impl_worm_ok (l : List Int) (c : Int) (hl : l.length ≤ 1048576) (h : shOk l c = true) (a b : Nat) (ha : a < l.length) (hb : b < l.length) (la lb : Bool) : Ev (fun k => impl_WormEats.f k l c (a : Int) la (b : Int) lb) (far l c a la b lb, true) := by
  have h1 := fc_bd h a ha la
  have h2 := fc_bd h b hb lb
  have ha' : decide (0 ≤ (a : Int) ∧ (a : Int) ≤ (l.length : Int) - 1) = true := decide_eq_true (by omega)
  have hb' : decide (0 ≤ (b : Int) ∧ (b : Int) ≤ (l.length : Int) - 1) = true := decide_eq_true (by omega)
  simp only [impl_WormEats.f]
  refine Ev.bind (impl_IsShelf_ev l c hl) ?_
  simp only [h, if_true]
  refine Ev.bind (impl_has_ev l c _ hl (by simp)) ?_
  simp only [List.all_cons, List.all_nil, ha', hb', Bool.and_self, Bool.not_true]
  refine ev_succ ?_
  simp only [impl_WormEats.j0, Bool.false_eq_true, if_false]
  refine Ev.bind (impl_face_ev l c h a ha la) ?_
  refine Ev.bind (impl_face_ev l c h b hb lb) ?_
  rw [w64 (x := fc l c a la - fc l c b lb) (by omega) (by omega), w64 (by omega) (by omega)]
  exact Ev.now _

theorem inner (l : List Int) (c : Int) (hl : l.length ≤ 1048576) (h : shOk l c = true) (a : Nat) (ha : a < l.length)
    (next : ∀ x y z : Int, ∃ r, Ev (fun k => spec_LongestWorm.l0 k x y z (l.length : Int) ((a + 1 : Nat) : Int) l c) r ∧ Ev (fun k => impl_LongestWorm.l0 k x y z (l.length : Int) ((a + 1 : Nat) : Int) l c) r) :
    ∀ (d b : Nat), b + d = l.length → ∀ x y z : Int, ∃ r, Ev (fun k => spec_LongestWorm.l1 k x y z (a : Int) (l.length : Int) (a : Int) (l.length : Int) (b : Int) l c) r ∧ Ev (fun k => impl_LongestWorm.l1 k x y z (a : Int) (l.length : Int) (a : Int) (l.length : Int) (b : Int) l c) r := by
  intro d
  induction d with
  | zero =>
    intro b hb x y z
    obtain ⟨r, h1, h2⟩ := next x y z
    refine ⟨r, ev_succ ?_, ev_succ ?_⟩
    · simp only [spec_LongestWorm.l1]
      refine ev_else (by omega) ?_
      rw [w64s (by omega)]
      exact h1
    · simp only [impl_LongestWorm.l1]
      refine ev_else (by omega) ?_
      rw [w64s (by omega)]
      exact h2
  | succ d ih =>
    intro b hb x y z
    have hb' : b < l.length := by omega
    have g1 := fc_bd h a ha false
    have g2 := fc_bd h b hb' true
    have hs : ∀ r, Ev (fun k => if (a : Int) = (b : Int) then (spec_LongestWorm.l1 k x y z (a : Int) (l.length : Int) (a : Int) (l.length : Int) ((b + 1 : Nat) : Int) l c) else (if far l c a false b true > z then (spec_LongestWorm.l1 k (a : Int) (b : Int) (far l c a false b true) (a : Int) (l.length : Int) (a : Int) (l.length : Int) ((b + 1 : Nat) : Int) l c) else (spec_LongestWorm.l1 k x y z (a : Int) (l.length : Int) (a : Int) (l.length : Int) ((b + 1 : Nat) : Int) l c))) r → Ev (fun k => spec_LongestWorm.l1 k x y z (a : Int) (l.length : Int) (a : Int) (l.length : Int) (b : Int) l c) r := by
      intro r hr
      refine ev_succ ?_
      simp only [spec_LongestWorm.l1]
      refine ev_if (by omega) ?_
      refine Ev.bind (spec_shFace_ev l c h a ha false) ?_
      refine Ev.bind (spec_shFace_ev l c h b hb' true) ?_
      rw [w64 (x := fc l c a false - fc l c b true) (by omega) (by omega), w64s (by omega)]
      refine ev_some (spec_l1Abs_eq _ (by omega)) ?_
      exact hr
    have hi : ∀ r, Ev (fun k => if (a : Int) = (b : Int) then (impl_LongestWorm.l1 k x y z (a : Int) (l.length : Int) (a : Int) (l.length : Int) ((b + 1 : Nat) : Int) l c) else (if far l c a false b true > z then (impl_LongestWorm.l1 k (a : Int) (b : Int) (far l c a false b true) (a : Int) (l.length : Int) (a : Int) (l.length : Int) ((b + 1 : Nat) : Int) l c) else (impl_LongestWorm.l1 k x y z (a : Int) (l.length : Int) (a : Int) (l.length : Int) ((b + 1 : Nat) : Int) l c))) r → Ev (fun k => impl_LongestWorm.l1 k x y z (a : Int) (l.length : Int) (a : Int) (l.length : Int) (b : Int) l c) r := by
      intro r hr
      refine ev_succ ?_
      simp only [impl_LongestWorm.l1]
      refine ev_if (by omega) ?_
      refine Ev.bind (impl_worm_ok l c hl h a b ha hb' false true) ?_
      rw [w64s (by omega)]
      exact hr
    by_cases e : (a : Int) = (b : Int)
    · obtain ⟨r, h1, h2⟩ := ih (b + 1) (by omega) x y z
      exact ⟨r, hs r (ev_if e h1), hi r (ev_if e h2)⟩
    · by_cases f : far l c a false b true > z
      · obtain ⟨r, h1, h2⟩ := ih (b + 1) (by omega) (a : Int) (b : Int) (far l c a false b true)
        exact ⟨r, hs r (ev_else e (ev_if f h1)), hi r (ev_else e (ev_if f h2))⟩
      · obtain ⟨r, h1, h2⟩ := ih (b + 1) (by omega) x y z
        exact ⟨r, hs r (ev_else e (ev_else f h1)), hi r (ev_else e (ev_else f h2))⟩
theorem outer (l : List Int) (c : Int) (hl : l.length ≤ 1048576) (h : shOk l c = true) :
    ∀ (d a : Nat), a + d = l.length → ∀ x y z : Int, ∃ r, Ev (fun k => spec_LongestWorm.l0 k x y z (l.length : Int) (a : Int) l c) r ∧ Ev (fun k => impl_LongestWorm.l0 k x y z (l.length : Int) (a : Int) l c) r := by
  intro d
  induction d with
  | zero =>
    intro a ha x y z
    refine ⟨(x, y, true), ev_succ ?_, ev_succ ?_⟩
    · simp only [spec_LongestWorm.l0]
      refine ev_else (by omega) ?_
      exact Ev.now _
    · simp only [impl_LongestWorm.l0]
      refine ev_else (by omega) ?_
      exact Ev.now _
  | succ d ih =>
    intro a ha x y z
    obtain ⟨r, h1, h2⟩ := inner l c hl h a (by omega) (ih (a + 1) (by omega)) l.length 0 (by omega) x y z
    refine ⟨r, ev_succ ?_, ev_succ ?_⟩
    · simp only [spec_LongestWorm.l0]
      refine ev_if (by omega) ?_
      exact h1
    · simp only [impl_LongestWorm.l0]
      refine ev_if (by omega) ?_
      exact h2
theorem same (l : List Int) (c : Int) (hl : l.length ≤ 1048576) (hw : ∀ x ∈ l, (Lit.int .i64 x).wf = true) (hc : (Lit.int .i64 c).wf = true) : ∃ r, Ev (fun k => spec_LongestWorm.f k l c) r ∧ Ev (fun k => impl_LongestWorm.f k l c) r := by
  simp only [spec_LongestWorm.f, impl_LongestWorm.f]
  have no : Ev (fun k => spec_LongestWorm.j0 k true l c) (0, 0, false) ∧ Ev (fun k => impl_LongestWorm.j0 k true l c) (0, 0, false) := by
    refine ⟨ev_succ ?_, ev_succ ?_⟩
    · simp only [spec_LongestWorm.j0, if_true]
      exact Ev.now _
    · simp only [impl_LongestWorm.j0, if_true]
      exact Ev.now _
  by_cases a : shOk l c = true
  · by_cases e : ((l.length : Int) == 1) = true
    · refine ⟨(0, 0, false), Ev.bind (spec_shGood_ev l c hl) ?_, Ev.bind (impl_IsShelf_ev l c hl) ?_⟩
      · simp only [a, e, if_true]
        exact no.1
      · simp only [a, e, if_true]
        exact no.2
    · obtain ⟨r, h1, h2⟩ := outer l c hl a l.length 0 (by omega) 0 0 (-1)
      refine ⟨r, Ev.bind (spec_shGood_ev l c hl) ?_, Ev.bind (impl_IsShelf_ev l c hl) ?_⟩
      · simp only [a, e, if_true]
        refine ev_succ ?_
        simp only [spec_LongestWorm.j0, Bool.false_eq_true, if_false]
        exact h1
      · simp only [a, e, if_true]
        refine ev_succ ?_
        simp only [impl_LongestWorm.j0, Bool.false_eq_true, if_false]
        exact h2
  · refine ⟨(0, 0, false), Ev.bind (spec_shGood_ev l c hl) ?_, Ev.bind (impl_IsShelf_ev l c hl) ?_⟩
    · simp only [a, Bool.false_eq_true, if_false]
      exact no.1
    · simp only [a, Bool.false_eq_true, if_false]
      exact no.2
theorem FnExactLongestWorm : ∀ (l : List Int) (c : Int) , l.length ≤ maxLen → (∀ x ∈ l, (Lit.int .i64 x).wf = true) → (Lit.int .i64 c).wf = true → ∃ k, laws_FnExactLongestWorm.f k l c  = some true := by
  intro l c  hm hw hc 
  refine Ev.rounds (r := true) ?_
  by_cases hl : l.length ≤ 1048576
  · obtain ⟨r, h1, h2⟩ := same l c  hl hw hc 
    simp only [laws_FnExactLongestWorm.f]
    refine ev_some (laws_szShelf_ok l c hl) ?_
    refine ev_else (by omega) ?_
    repeat (first
      | exact Ev.now _
      | (dsimp only)
      | (with_reducible refine Ev.bind h1 ?_)
      | (with_reducible refine Ev.bind h2 ?_)
      | (with_reducible refine Ev.bind (laws_toShelf_ev _ _ (by omega)) ?_)
      | (with_reducible refine Ev.bind (laws_eqShelf_ev _ _ (by omega)) ?_)
      | (simp only [decide_true, if_true, bne_self_eq_false, Bool.false_eq_true, if_false, neg_no])
      | (refine ev_succ ?_; simp only [laws_FnExactLongestWorm.j0]))
  · simp only [laws_FnExactLongestWorm.f]
    refine ev_some (laws_szShelf_no l c hl hm) ?_
    refine ev_if (by omega) ?_
    exact Ev.now _

end Go.Proofs.Ytiedpggapckieaa.Pure
