/- The plain law behind FnExactMoveChapter, in lists and numbers alone: the program's and the reference's moved list are one. No condition beyond the printed bounds. -/
import Derived.Test.YtlolifijdeenjaaXFnExactMoveChapterx4
set_option linter.unusedVariables false
set_option linter.unusedSimpArgs false
namespace Go.Proofs.Ytlolifijdeenjaa.Pure
open Go.RowKit Go.Proofs.Ytlolifijdeenjaa.XFnExactMoveChapter Go.Proofs.YtlolifijdeenjaaW.PrintWords Go.Proofs.YtlolifijdeenjaaW.PrintLast Go.Proofs.YtlolifijdeenjaaW.PrintMore
/-! ### Small words: rounds, reads, sums without a wrap. -/
theorem ev_some {α β : Type} {g : Option α} {f : Nat → α → Option β} {a : α} {r : β} (h : g = some a) (k : Ev (fun n => f n a) r) : Ev (fun n => g.bind (f n)) r := by
  subst h
  exact k
theorem ev_ret {α : Type} {r s : α} (h : r = s) : Ev (fun _ => some r) s := by
  subst h
  exact Ev.now r
theorem ev_map {α β : Type} {g : Nat → Option α} {f : α → β} {a : α} {r : β} (h : Ev g a) (e : f a = r) : Ev (fun n => (g n).bind fun t => some (f t)) r := Ev.bind h (ev_ret e)
theorem ev_eq {α : Type} {g f : Nat → Option α} {r : α} (h : g = f) (k : Ev f r) : Ev g r := by
  rw [h]
  exact k
theorem w64 {x : Int} (h0 : -9223372036854775808 ≤ x) (h1 : x ≤ 9223372036854775807) : wrap64 x = x := by
  unfold wrap64
  omega
theorem w64s {i : Nat} (h : i < 4611686018427387904) : wrap64 ((i : Int) + 1) = ((i + 1 : Nat) : Int) := by
  rw [w64 (by omega) (by omega)]
  rfl
theorem rd_nat (l : List Int) (i : Nat) (h : i < l.length) : rd l (i : Int) = l[i] := by
  unfold rd
  rw [Int.toNat_natCast, List.getD_eq_getElem?_getD, List.getElem?_eq_getElem h]
  rfl
theorem wf_i64 {x : Int} (h : (Lit.int .i64 x).wf = true) : -9223372036854775808 ≤ x ∧ x ≤ 9223372036854775807 := by
  simp only [Lit.wf, Bool.and_eq_true, decide_eq_true_eq] at h
  exact h
theorem ev_succ {α : Type} {g : Nat → Option α} {r : α} (h : Ev (fun k => g (k + 1)) r) : Ev g r := Ev.step (fun _ => rfl) h
theorem neg_no (n : Nat) : ¬ (1 + (n : Int) < 0) := by omega
theorem ev_if {α : Type} {c : Prop} [Decidable c] {g f : Nat → Option α} {r : α} (h : c) (k : Ev g r) : Ev (fun n => if c then g n else f n) r := Ev.congr (fun _ => if_pos h) k
theorem ev_else {α : Type} {c : Prop} [Decidable c] {g f : Nat → Option α} {r : α} (h : ¬ c) (k : Ev f r) : Ev (fun n => if c then g n else f n) r := Ev.congr (fun _ => if_neg h) k

theorem set_app {α : Type} (a b : List α) (x y : α) (n : Nat) (h : n = a.length) : (a ++ x :: b).set n y = a ++ y :: b := by
  subst h
  simp

theorem laws_toIntS_ev (l : List Int) (hl : l.length ≤ 1048576) : Ev (fun k => laws_toIntS.f k l) l := by
  have key : ∀ (d i : Nat), i + d = l.length → Ev (fun k => laws_toIntS.l0 k l (l.take i ++ List.replicate d 0) (i : Int)) l := by
    intro d
    induction d with
    | zero =>
      intro i h
      refine ev_succ ?_
      simp only [laws_toIntS.l0]
      refine ev_else (by omega) ?_
      refine ev_ret ?_
      rw [List.take_of_length_le (by omega)]
      simp
    | succ d ih =>
      intro i h
      have hi' : i < l.length := by omega
      refine Ev.step (f := fun k => laws_toIntS.l0 k l (l.take (i + 1) ++ List.replicate d 0) ((i + 1 : Nat) : Int)) (fun k => ?_) (ih (i + 1) (by omega))
      simp only [laws_toIntS.l0]
      rw [if_pos (by omega), if_pos (by omega), if_pos (by simp; omega), rd_nat l i hi', w64s (by omega), Int.toNat_natCast, List.replicate_succ, set_app _ _ _ _ _ (by simp; omega), List.take_succ_eq_append_getElem hi']
      simp only [List.append_assoc, List.cons_append, List.nil_append]
  refine ev_eq (f := fun k => laws_toIntS.l0 k l (l.take 0 ++ List.replicate l.length 0) ((0 : Nat) : Int)) ?_ (key l.length 0 (by omega))
  funext k
  simp only [laws_toIntS.f]
  rw [if_pos (by omega), if_pos (by omega)]
  simp

theorem laws_eqIntS_ev (a b : List Int) (hl : a.length ≤ 4611686018427387903) : Ev (fun k => laws_eqIntS.f k a b) (decide (a = b)) := by
  by_cases hlen : a.length = b.length
  · have key : ∀ (d i : Nat), i + d = a.length → Ev (fun k => laws_eqIntS.l0 k a b (i : Int)) (decide (a.drop i = b.drop i)) := by
      intro d
      induction d with
      | zero =>
        intro i h
        rw [List.drop_eq_nil_of_le (by omega), List.drop_eq_nil_of_le (by omega)]
        refine ev_succ ?_
        simp only [laws_eqIntS.l0]
        refine ev_else (by omega) ?_
        exact ev_ret (by simp)
      | succ d ih =>
        intro i h
        have h1 : i < a.length := by omega
        have h2 : i < b.length := by omega
        rw [List.drop_eq_getElem_cons h1, List.drop_eq_getElem_cons h2]
        refine Ev.step (f := fun k => if a[i] = b[i] then laws_eqIntS.l0 k a b ((i + 1 : Nat) : Int) else some false) (fun k => by simp only [laws_eqIntS.l0]; rw [if_pos (by omega), if_pos (by omega), if_pos (by omega), rd_nat a i h1, rd_nat b i h2, w64s (by omega)]) ?_
        by_cases c : a[i] = b[i]
        · simp only [c, if_true, List.cons.injEq, true_and]
          exact ih (i + 1) (by omega)
        · simp only [c, if_false, List.cons.injEq, false_and, decide_false]
          exact Ev.now _
    refine ev_eq (f := fun k => laws_eqIntS.l0 k a b ((0 : Nat) : Int)) ?_ (key a.length 0 (by omega))
    funext k
    simp only [laws_eqIntS.f]
    rw [if_pos (by omega)]
    rfl
  · refine ev_eq (f := fun _ => some false) ?_ (ev_ret (by simp; intro h; exact hlen (by rw [h])))
    funext k
    simp only [laws_eqIntS.f]
    rw [if_neg (by omega)]

def marked (m : Int) (n : Nat) : List Int := (List.range n).map fun (j : Nat) => m + (j : Int)
theorem marked_succ (m : Int) (n : Nat) : marked m (n + 1) = marked m n ++ [m + (n : Int)] := by
  unfold marked
  rw [List.range_succ]
  simp
theorem marked_len (m : Int) (n : Nat) : (marked m n).length = n := by simp [marked]
theorem laws_markIntS_ev (l : List Int) (hl : l.length ≤ 1048576) : Ev (fun k => laws_markIntS.f k l 1) (1 + (l.length : Int), marked 1 l.length) := by
  have key : ∀ (d i : Nat), i + d = l.length → Ev (fun k => laws_markIntS.l0 k (marked 1 i ++ l.drop i) (1 + (i : Int)) (i : Int)) (1 + (l.length : Int), marked 1 l.length) := by
    intro d
    induction d with
    | zero =>
      intro i h
      obtain rfl : i = l.length := by omega
      refine ev_succ ?_
      simp only [laws_markIntS.l0]
      refine ev_else (by simp [marked_len]) ?_
      refine ev_ret ?_
      simp
    | succ d ih =>
      intro i h
      have h1 : i < l.length := by omega
      refine Ev.step (f := fun k => laws_markIntS.l0 k (marked 1 (i + 1) ++ l.drop (i + 1)) (1 + ((i + 1 : Nat) : Int)) ((i + 1 : Nat) : Int)) (fun k => ?_) (ih (i + 1) (by omega))
      simp only [laws_markIntS.l0]
      rw [if_pos (by simp [marked_len]; omega), if_pos (by omega), w64s (by omega), Int.toNat_natCast, List.drop_eq_getElem_cons h1, set_app _ _ _ _ _ (by simp [marked_len]), w64 (by omega) (by omega), marked_succ]
      simp only [List.append_assoc, List.singleton_append, Int.natCast_succ, Int.add_assoc]
  refine ev_eq (f := fun k => laws_markIntS.l0 k (marked 1 0 ++ l.drop 0) (1 + ((0 : Nat) : Int)) ((0 : Nat) : Int)) ?_ (key l.length 0 (by omega))
  funext k
  simp only [laws_markIntS.f]
  simp [marked]
theorem laws_heldIntS_ev (n : Nat) (hl : n ≤ 1048576) : Ev (fun k => laws_heldIntS.f k (marked 1 n) 1) (1 + (n : Int)) := by
  have key : ∀ (d i : Nat), i + d = n → Ev (fun k => laws_heldIntS.l0 k (marked 1 n) (1 + (i : Int)) (i : Int)) (1 + (n : Int)) := by
    intro d
    induction d with
    | zero =>
      intro i h
      obtain rfl : i = n := by omega
      refine ev_succ ?_
      simp only [laws_heldIntS.l0]
      refine ev_else (by simp [marked_len]) ?_
      exact ev_ret rfl
    | succ d ih =>
      intro i h
      refine Ev.step (f := fun k => laws_heldIntS.l0 k (marked 1 n) (1 + ((i + 1 : Nat) : Int)) ((i + 1 : Nat) : Int)) (fun k => ?_) (ih (i + 1) (by omega))
      simp only [laws_heldIntS.l0]
      rw [if_pos (by simp [marked_len]; omega), if_pos (by omega), rd_nat _ i (by simp [marked_len]; omega), if_pos (by simp [marked]), w64s (by omega), w64 (by omega) (by omega)]
      simp only [Int.natCast_succ, Int.add_assoc]
  refine ev_eq (f := fun k => laws_heldIntS.l0 k (marked 1 n) (1 + ((0 : Nat) : Int)) ((0 : Nat) : Int)) ?_ (key n 0 (by omega))
  funext k
  simp only [laws_heldIntS.f]
  simp

theorem spec_l1In_eq (x lo hi : Int) : spec_l1In.f x lo hi = some (decide (lo ≤ x ∧ x ≤ hi)) := by
  unfold spec_l1In.f
  by_cases c : x ≥ lo
  · rw [if_pos c]
    congr 1
    simp only [c, true_and]
  · rw [if_neg c]
    congr 1
    exact (decide_eq_false (fun h => c h.1)).symm

theorem spec_l1All_ev (lo hi : Int) (l : List Int) (hl : l.length ≤ 4611686018427387903) : Ev (fun k => spec_l1All.f k l lo hi) (l.all fun x => decide (lo ≤ x ∧ x ≤ hi)) := by
  have key : ∀ (d i : Nat), i + d = l.length → Ev (fun k => spec_l1All.l0 k lo hi l (l.length : Int) (i : Int)) ((l.drop i).all fun x => decide (lo ≤ x ∧ x ≤ hi)) := by
    intro d
    induction d with
    | zero =>
      intro i h
      rw [List.drop_eq_nil_of_le (by omega)]
      exact Ev.step (f := fun _ => some true) (fun k => by simp only [spec_l1All.l0]; rw [if_neg (by omega)]) (Ev.now _)
    | succ d ih =>
      intro i h
      have hi' : i < l.length := by omega
      rw [List.drop_eq_getElem_cons hi', List.all_cons]
      refine Ev.step (f := fun k => (spec_l1In.f l[i] lo hi).bind fun t => if t = true then spec_l1All.l0 k lo hi l (l.length : Int) ((i + 1 : Nat) : Int) else some false) (fun k => by simp only [spec_l1All.l0]; rw [if_pos (by omega), if_pos (by omega), if_pos (by omega), rd_nat l i hi', w64s (by omega)]) ?_
      refine ev_some (spec_l1In_eq _ _ _) ?_
      by_cases c : lo ≤ l[i] ∧ l[i] ≤ hi
      · simp only [c, and_self, decide_true, if_true, Bool.true_and]
        exact ih (i + 1) (by omega)
      · simp only [c, decide_false, Bool.false_and, Bool.false_eq_true, if_false]
        exact Ev.now _
  exact key l.length 0 (by omega)

theorem impl_within_eq (x lo hi : Int) : impl_within.f x lo hi = some (decide (lo ≤ x ∧ x ≤ hi)) := by
  unfold impl_within.f
  by_cases c : x ≥ lo
  · rw [if_pos c]
    congr 1
    simp only [c, true_and]
  · rw [if_neg c]
    congr 1
    exact (decide_eq_false (fun h => c h.1)).symm

theorem impl_allWithin_ev (lo hi : Int) (l : List Int) (hl : l.length ≤ 4611686018427387903) : Ev (fun k => impl_allWithin.f k l lo hi) (l.all fun x => decide (lo ≤ x ∧ x ≤ hi)) := by
  have key : ∀ (d i : Nat), i + d = l.length → Ev (fun k => impl_allWithin.l0 k lo hi l (l.length : Int) (i : Int)) ((l.drop i).all fun x => decide (lo ≤ x ∧ x ≤ hi)) := by
    intro d
    induction d with
    | zero =>
      intro i h
      rw [List.drop_eq_nil_of_le (by omega)]
      exact Ev.step (f := fun _ => some true) (fun k => by simp only [impl_allWithin.l0]; rw [if_neg (by omega)]) (Ev.now _)
    | succ d ih =>
      intro i h
      have hi' : i < l.length := by omega
      rw [List.drop_eq_getElem_cons hi', List.all_cons]
      refine Ev.step (f := fun k => (impl_within.f l[i] lo hi).bind fun t => if t = true then impl_allWithin.l0 k lo hi l (l.length : Int) ((i + 1 : Nat) : Int) else some false) (fun k => by simp only [impl_allWithin.l0]; rw [if_pos (by omega), if_pos (by omega), if_pos (by omega), rd_nat l i hi', w64s (by omega)]) ?_
      refine ev_some (impl_within_eq _ _ _) ?_
      by_cases c : lo ≤ l[i] ∧ l[i] ≤ hi
      · simp only [c, and_self, decide_true, if_true, Bool.true_and]
        exact ih (i + 1) (by omega)
      · simp only [c, decide_false, Bool.false_and, Bool.false_eq_true, if_false]
        exact Ev.now _
  exact key l.length 0 (by omega)

def caOk (l : List Int) : Bool := decide (1 ≤ (l.length : Int) ∧ (l.length : Int) ≤ 12) && l.all fun x => decide (1 ≤ x ∧ x ≤ 120)
theorem caOk_len {l : List Int} (h : caOk l = true) : 1 ≤ l.length ∧ l.length ≤ 12 := by
  simp only [caOk, Bool.and_eq_true, decide_eq_true_eq] at h
  omega
theorem caOk_all {l : List Int} (h : caOk l = true) : ∀ x ∈ l, 1 ≤ x ∧ x ≤ 120 := by
  simp only [caOk, Bool.and_eq_true, List.all_eq_true, decide_eq_true_eq] at h
  exact h.2
theorem spec_caGood_ev (l : List Int) (hl : l.length ≤ 1048576) : Ev (fun k => spec_caGood.f k l) (caOk l) := by
  simp only [spec_caGood.f]
  refine ev_some (spec_l1In_eq _ _ _) ?_
  unfold caOk
  by_cases c : 1 ≤ (l.length : Int) ∧ (l.length : Int) ≤ 12
  · simp only [c, and_self, decide_true, if_true, Bool.true_and]
    exact ev_map (spec_l1All_ev 1 120 l (by omega)) rfl
  · simp only [c, decide_false, Bool.false_and, Bool.false_eq_true, if_false]
    exact Ev.now _
theorem impl_AreChapters_ev (l : List Int) (hl : l.length ≤ 1048576) : Ev (fun k => impl_AreChapters.f k l) (caOk l) := by
  simp only [impl_AreChapters.f]
  refine ev_some (impl_within_eq _ _ _) ?_
  unfold caOk
  by_cases c : 1 ≤ (l.length : Int) ∧ (l.length : Int) ≤ 12
  · simp only [c, and_self, decide_true, if_true, Bool.true_and]
    exact ev_map (impl_allWithin_ev 1 120 l (by omega)) rfl
  · simp only [c, decide_false, Bool.false_and, Bool.false_eq_true, if_false]
    exact Ev.now _

theorem moved_len (l : List Int) (i j : Nat) (hi : i < l.length) : (impl_moved.list l i j).length = l.length := by
  simp only [impl_moved.list, List.length_append, List.length_take, List.length_drop, List.length_singleton]
  omega
theorem spec_ok (l : List Int) (h12 : l.length ≤ 12) (i j : Nat) (hi : i < l.length) (hj : j < l.length) : Ev (fun k => spec_MoveChapter.j0 k l (i : Int) (j : Int) false) (impl_moved.list l i j, true) := by
  have e1 : ∀ xs : List Int, xs.length ≤ 100 → spec_l1Own.f xs = some xs := by
    intro xs hx
    simp only [spec_l1Own.f, Option.bind_some, List.length_nil, List.nil_append]
    rw [if_pos (by omega)]
  have l1 : (l.take i).length = i := by rw [List.length_take]; omega
  have l2 : (l.drop (i + 1)).length = l.length - (i + 1) := List.length_drop
  have l3 : (l.take i ++ l.drop (i + 1)).length = l.length - 1 := by rw [List.length_append, l1, l2]; omega
  have l4 : ((l.take i ++ l.drop (i + 1)).take j).length = j := by rw [List.length_take, l3]; omega
  have l5 : ((l.take i ++ l.drop (i + 1)).drop j).length = l.length - 1 - j := by rw [List.length_drop, l3]
  have hX : ∀ k, spec_MoveChapter.j0 (k + 1) l (i : Int) (j : Int) false = some (impl_moved.list l i j, true) := by
    intro k
    simp only [spec_MoveChapter.j0, Bool.false_eq_true, if_false, w64s (i := i) (show i < 4611686018427387904 by omega), Int.toNat_natCast]
    rw [if_pos (by omega), if_pos (by omega), e1 (l.take i) (by omega)]
    simp only [Option.bind_some]
    rw [if_pos (by omega), if_pos (by omega), if_pos (by omega), if_pos (by omega), if_pos (by omega), e1 ((l.take i ++ l.drop (i + 1)).take j) (by omega)]
    simp only [Option.bind_some]
    rw [if_pos (by omega), if_pos (by rw [List.length_singleton]; omega), if_pos (by rw [List.length_append, List.length_singleton]; omega)]
    rfl
  exact ev_succ (ev_eq (funext hX) (Ev.now _))
theorem same (l : List Int) (a b : Int) (hl : l.length ≤ 1048576) (hw : ∀ x ∈ l, (Lit.int .i64 x).wf = true) (wa : (Lit.int .i64 a).wf = true) (wb : (Lit.int .i64 b).wf = true) : ∃ r, Ev (fun k => spec_MoveChapter.f k l a b) r ∧ Ev (fun k => impl_MoveChapter.f k l a b) r ∧ r.1.length ≤ 1048576 := by
  have s0 : Ev (fun k => spec_MoveChapter.j0 k l a b true) ([], false) := by
    refine ev_succ ?_
    simp only [spec_MoveChapter.j0, if_true]
    exact Ev.now _
  by_cases g : caOk l = true
  · have hn := caOk_len g
    by_cases ga : 0 ≤ a ∧ a ≤ (l.length : Int) - 1
    · by_cases gb : 0 ≤ b ∧ b ≤ (l.length : Int) - 1
      · obtain ⟨i, rfl⟩ := Int.eq_ofNat_of_zero_le ga.1
        obtain ⟨j, rfl⟩ := Int.eq_ofNat_of_zero_le gb.1
        have hi : i < l.length := by omega
        have hj : j < l.length := by omega
        have hm : impl_moved.f l (i : Int) (j : Int) = some (impl_moved.list l i j) := by
          unfold impl_moved.f
          rw [if_pos (by omega)]
          rfl
        refine ⟨(impl_moved.list l i j, true), ?_, ?_, by show (impl_moved.list l i j).length ≤ _; rw [moved_len l i j hi]; exact hl⟩
        · simp only [spec_MoveChapter.f]
          refine Ev.bind (spec_caGood_ev l hl) ?_
          rw [w64 (x := (l.length : Int) - 1) (by omega) (by omega)]
          simp only [g, if_true, spec_l1In_eq, Option.bind_some, ga, gb, and_self, decide_true, Bool.not_true]
          exact spec_ok l (by omega) i j hi hj
        · simp only [impl_MoveChapter.f]
          refine Ev.bind (impl_AreChapters_ev l hl) ?_
          rw [w64 (x := (l.length : Int) - 1) (by omega) (by omega)]
          simp only [g, if_true, impl_within_eq, Option.bind_some, ga, gb, and_self, decide_true, hm]
          exact Ev.now _
      · refine ⟨([], false), ?_, ?_, by simp⟩
        · simp only [spec_MoveChapter.f]
          refine Ev.bind (spec_caGood_ev l hl) ?_
          rw [w64 (x := (l.length : Int) - 1) (by omega) (by omega)]
          simp only [g, if_true, spec_l1In_eq, Option.bind_some, ga, gb, and_self, decide_true, decide_false, Bool.not_false]
          exact s0
        · simp only [impl_MoveChapter.f]
          refine Ev.bind (impl_AreChapters_ev l hl) ?_
          rw [w64 (x := (l.length : Int) - 1) (by omega) (by omega)]
          simp only [g, if_true, impl_within_eq, Option.bind_some, ga, gb, and_self, decide_true, decide_false, Bool.false_eq_true, if_false]
          exact Ev.now _
    · refine ⟨([], false), ?_, ?_, by simp⟩
      · simp only [spec_MoveChapter.f]
        refine Ev.bind (spec_caGood_ev l hl) ?_
        rw [w64 (x := (l.length : Int) - 1) (by omega) (by omega)]
        simp only [g, if_true, spec_l1In_eq, Option.bind_some, ga, decide_false, Bool.false_eq_true, if_false]
        exact s0
      · simp only [impl_MoveChapter.f]
        refine Ev.bind (impl_AreChapters_ev l hl) ?_
        rw [w64 (x := (l.length : Int) - 1) (by omega) (by omega)]
        simp only [g, if_true, impl_within_eq, Option.bind_some, ga, decide_false, Bool.false_eq_true, if_false]
        exact Ev.now _
  · refine ⟨([], false), ?_, ?_, by simp⟩
    · simp only [spec_MoveChapter.f]
      refine Ev.bind (spec_caGood_ev l hl) ?_
      simp only [g, Bool.false_eq_true, if_false]
      exact s0
    · simp only [impl_MoveChapter.f]
      refine Ev.bind (impl_AreChapters_ev l hl) ?_
      simp only [g, Bool.false_eq_true, if_false]
      exact Ev.now _
theorem FnExactMoveChapter : laws_FnExactMoveChapter.Pure := by
  intro l0 a b hm h8 hw wa wb
  refine Ev.rounds (r := true) ?_
  by_cases hl : (l0.length : Int) > 1048576
  · simp only [laws_FnExactMoveChapter.f, if_pos hl]
    exact Ev.now _
  · have hl' : l0.length ≤ 1048576 := by omega
    obtain ⟨r, h1, h2, hr⟩ := same l0 a b hl' hw wa wb
    simp only [laws_FnExactMoveChapter.f, if_neg hl]
    repeat (first
      | exact Ev.now _
      | (dsimp only)
      | (with_reducible refine Ev.bind h1 ?_)
      | (with_reducible refine Ev.bind h2 ?_)
      | (with_reducible refine Ev.bind (laws_toIntS_ev _ (by omega)) ?_)
      | (with_reducible refine Ev.bind (laws_eqIntS_ev _ _ (by omega)) ?_)
      | (with_reducible refine Ev.bind (laws_markIntS_ev _ (by omega)) ?_)
      | (with_reducible refine Ev.bind (laws_heldIntS_ev _ (by omega)) ?_)
      | (simp only [decide_true, if_true, bne_self_eq_false, Bool.false_eq_true, if_false, neg_no])
      | (refine ev_succ ?_; simp only [laws_FnExactMoveChapter.j0, laws_FnExactMoveChapter.j1, laws_FnExactMoveChapter.j2]))

end Go.Proofs.Ytlolifijdeenjaa.Pure
