/- The plain law behind FnExactPagesEaten, in lists and numbers alone: the program's and the reference's volumes that are eaten through are one list. No condition beyond the printed bounds. -/
import Derived.Test.YtiedpggapckieaaXFnExactPagesEatenx4
set_option linter.unusedVariables false
set_option linter.unusedSimpArgs false
namespace Go.Proofs.Ytiedpggapckieaa.Pure
open Go.RowKit Go.Proofs.Ytiedpggapckieaa.XFnExactPagesEaten Go.Proofs.YtiedpggapckieaaW.PrintWords Go.Proofs.YtiedpggapckieaaW.PrintLast Go.Proofs.YtiedpggapckieaaW.PrintMore
/-! ### Small words: rounds, reads, sums without a wrap. -/
theorem ev_some {α β : Type} {g : Option α} {f : Nat → α → Option β} {a : α} {r : β} (h : g = some a) (k : Ev (fun n => f n a) r) : Ev (fun n => g.bind (f n)) r := by
  subst h
  exact k
theorem ev_ret {α : Type} {r s : α} (h : r = s) : Ev (fun _ => some r) s := by
  subst h
  exact Ev.now r
theorem ev_map {α β : Type} {g : Nat → Option α} {f : α → β} {a : α} {r : β} (h : Ev g a) (e : f a = r) : Ev (fun n => (g n).bind fun t => some (f t)) r := Ev.bind h (ev_ret e)
theorem ev_eq {α : Type} {g f : Nat → Option α} {r : α} (h : g = f) (k : Ev f r) : Ev g r := by
  rw [h]
  exact k
theorem w64 {x : Int} (h0 : -9223372036854775808 ≤ x) (h1 : x ≤ 9223372036854775807) : wrap64 x = x := by
  unfold wrap64
  omega
theorem w64s {i : Nat} (h : i < 4611686018427387904) : wrap64 ((i : Int) + 1) = ((i + 1 : Nat) : Int) := by
  rw [w64 (by omega) (by omega)]
  rfl
theorem rd_nat (l : List Int) (i : Nat) (h : i < l.length) : rd l (i : Int) = l[i] := by
  unfold rd
  rw [Int.toNat_natCast, List.getD_eq_getElem?_getD, List.getElem?_eq_getElem h]
  rfl
theorem wf_i64 {x : Int} (h : (Lit.int .i64 x).wf = true) : -9223372036854775808 ≤ x ∧ x ≤ 9223372036854775807 := by
  simp only [Lit.wf, Bool.and_eq_true, decide_eq_true_eq] at h
  exact h
theorem ev_succ {α : Type} {g : Nat → Option α} {r : α} (h : Ev (fun k => g (k + 1)) r) : Ev g r := Ev.step (fun _ => rfl) h
theorem neg_no (n : Nat) : ¬ (1 + (n : Int) < 0) := by omega
theorem ev_if {α : Type} {c : Prop} [Decidable c] {g f : Nat → Option α} {r : α} (h : c) (k : Ev g r) : Ev (fun n => if c then g n else f n) r := Ev.congr (fun _ => if_pos h) k
theorem ev_else {α : Type} {c : Prop} [Decidable c] {g f : Nat → Option α} {r : α} (h : ¬ c) (k : Ev f r) : Ev (fun n => if c then g n else f n) r := Ev.congr (fun _ => if_neg h) k

theorem set_app {α : Type} (a b : List α) (x y : α) (n : Nat) (h : n = a.length) : (a ++ x :: b).set n y = a ++ y :: b := by
  subst h
  simp

theorem laws_toIntS_ev (l : List Int) (hl : l.length ≤ 1048576) : Ev (fun k => laws_toIntS.f k l) l := by
  have key : ∀ (d i : Nat), i + d = l.length → Ev (fun k => laws_toIntS.l0 k l (l.take i ++ List.replicate d 0) (i : Int)) l := by
    intro d
    induction d with
    | zero =>
      intro i h
      refine ev_succ ?_
      simp only [laws_toIntS.l0]
      refine ev_else (by omega) ?_
      refine ev_ret ?_
      rw [List.take_of_length_le (by omega)]
      simp
    | succ d ih =>
      intro i h
      have hi' : i < l.length := by omega
      refine Ev.step (f := fun k => laws_toIntS.l0 k l (l.take (i + 1) ++ List.replicate d 0) ((i + 1 : Nat) : Int)) (fun k => ?_) (ih (i + 1) (by omega))
      simp only [laws_toIntS.l0]
      rw [if_pos (by omega), if_pos (by omega), if_pos (by simp; omega), rd_nat l i hi', w64s (by omega), Int.toNat_natCast, List.replicate_succ, set_app _ _ _ _ _ (by simp; omega), List.take_succ_eq_append_getElem hi']
      simp only [List.append_assoc, List.cons_append, List.nil_append]
  refine ev_eq (f := fun k => laws_toIntS.l0 k l (l.take 0 ++ List.replicate l.length 0) ((0 : Nat) : Int)) ?_ (key l.length 0 (by omega))
  funext k
  simp only [laws_toIntS.f]
  rw [if_pos (by omega), if_pos (by omega)]
  simp

theorem laws_eqIntS_ev (a b : List Int) (hl : a.length ≤ 4611686018427387903) : Ev (fun k => laws_eqIntS.f k a b) (decide (a = b)) := by
  by_cases hlen : a.length = b.length
  · have key : ∀ (d i : Nat), i + d = a.length → Ev (fun k => laws_eqIntS.l0 k a b (i : Int)) (decide (a.drop i = b.drop i)) := by
      intro d
      induction d with
      | zero =>
        intro i h
        rw [List.drop_eq_nil_of_le (by omega), List.drop_eq_nil_of_le (by omega)]
        refine ev_succ ?_
        simp only [laws_eqIntS.l0]
        refine ev_else (by omega) ?_
        exact ev_ret (by simp)
      | succ d ih =>
        intro i h
        have h1 : i < a.length := by omega
        have h2 : i < b.length := by omega
        rw [List.drop_eq_getElem_cons h1, List.drop_eq_getElem_cons h2]
        refine Ev.step (f := fun k => if a[i] = b[i] then laws_eqIntS.l0 k a b ((i + 1 : Nat) : Int) else some false) (fun k => by simp only [laws_eqIntS.l0]; rw [if_pos (by omega), if_pos (by omega), if_pos (by omega), rd_nat a i h1, rd_nat b i h2, w64s (by omega)]) ?_
        by_cases c : a[i] = b[i]
        · simp only [c, if_true, List.cons.injEq, true_and]
          exact ih (i + 1) (by omega)
        · simp only [c, if_false, List.cons.injEq, false_and, decide_false]
          exact Ev.now _
    refine ev_eq (f := fun k => laws_eqIntS.l0 k a b ((0 : Nat) : Int)) ?_ (key a.length 0 (by omega))
    funext k
    simp only [laws_eqIntS.f]
    rw [if_pos (by omega)]
    rfl
  · refine ev_eq (f := fun _ => some false) ?_ (ev_ret (by simp; intro h; exact hlen (by rw [h])))
    funext k
    simp only [laws_eqIntS.f]
    rw [if_neg (by omega)]

theorem spec_l1In_eq (x lo hi : Int) : spec_l1In.f x lo hi = some (decide (lo ≤ x ∧ x ≤ hi)) := by
  unfold spec_l1In.f
  by_cases c : x ≥ lo
  · rw [if_pos c]
    congr 1
    simp only [c, true_and]
  · rw [if_neg c]
    congr 1
    exact (decide_eq_false (fun h => c h.1)).symm

theorem spec_l1All_ev (lo hi : Int) (l : List Int) (hl : l.length ≤ 4611686018427387903) : Ev (fun k => spec_l1All.f k l lo hi) (l.all fun x => decide (lo ≤ x ∧ x ≤ hi)) := by
  have key : ∀ (d i : Nat), i + d = l.length → Ev (fun k => spec_l1All.l0 k lo hi l (l.length : Int) (i : Int)) ((l.drop i).all fun x => decide (lo ≤ x ∧ x ≤ hi)) := by
    intro d
    induction d with
    | zero =>
      intro i h
      rw [List.drop_eq_nil_of_le (by omega)]
      exact Ev.step (f := fun _ => some true) (fun k => by simp only [spec_l1All.l0]; rw [if_neg (by omega)]) (Ev.now _)
    | succ d ih =>
      intro i h
      have hi' : i < l.length := by omega
      rw [List.drop_eq_getElem_cons hi', List.all_cons]
      refine Ev.step (f := fun k => (spec_l1In.f l[i] lo hi).bind fun t => if t = true then spec_l1All.l0 k lo hi l (l.length : Int) ((i + 1 : Nat) : Int) else some false) (fun k => by simp only [spec_l1All.l0]; rw [if_pos (by omega), if_pos (by omega), if_pos (by omega), rd_nat l i hi', w64s (by omega)]) ?_
      refine ev_some (spec_l1In_eq _ _ _) ?_
      by_cases c : lo ≤ l[i] ∧ l[i] ≤ hi
      · simp only [c, and_self, decide_true, if_true, Bool.true_and]
        exact ih (i + 1) (by omega)
      · simp only [c, decide_false, Bool.false_and, Bool.false_eq_true, if_false]
        exact Ev.now _
  exact key l.length 0 (by omega)

theorem impl_within_eq (x lo hi : Int) : impl_within.f x lo hi = some (decide (lo ≤ x ∧ x ≤ hi)) := by
  unfold impl_within.f
  by_cases c : x ≥ lo
  · rw [if_pos c]
    congr 1
    simp only [c, true_and]
  · rw [if_neg c]
    congr 1
    exact (decide_eq_false (fun h => c h.1)).symm

theorem impl_allWithin_ev (lo hi : Int) (l : List Int) (hl : l.length ≤ 4611686018427387903) : Ev (fun k => impl_allWithin.f k l lo hi) (l.all fun x => decide (lo ≤ x ∧ x ≤ hi)) := by
  have key : ∀ (d i : Nat), i + d = l.length → Ev (fun k => impl_allWithin.l0 k lo hi l (l.length : Int) (i : Int)) ((l.drop i).all fun x => decide (lo ≤ x ∧ x ≤ hi)) := by
    intro d
    induction d with
    | zero =>
      intro i h
      rw [List.drop_eq_nil_of_le (by omega)]
      exact Ev.step (f := fun _ => some true) (fun k => by simp only [impl_allWithin.l0]; rw [if_neg (by omega)]) (Ev.now _)
    | succ d ih =>
      intro i h
      have hi' : i < l.length := by omega
      rw [List.drop_eq_getElem_cons hi', List.all_cons]
      refine Ev.step (f := fun k => (impl_within.f l[i] lo hi).bind fun t => if t = true then impl_allWithin.l0 k lo hi l (l.length : Int) ((i + 1 : Nat) : Int) else some false) (fun k => by simp only [impl_allWithin.l0]; rw [if_pos (by omega), if_pos (by omega), if_pos (by omega), rd_nat l i hi', w64s (by omega)]) ?_
      refine ev_some (impl_within_eq _ _ _) ?_
      by_cases c : lo ≤ l[i] ∧ l[i] ≤ hi
      · simp only [c, and_self, decide_true, if_true, Bool.true_and]
        exact ih (i + 1) (by omega)
      · simp only [c, decide_false, Bool.false_and, Bool.false_eq_true, if_false]
        exact Ev.now _
  exact key l.length 0 (by omega)

theorem laws_szShelf_ok (l : List Int) (c : Int) (h : l.length ≤ 1048576) : laws_szShelf.f l c 1048576 = some (1048576 - (l.length : Int)) := by
  simp only [laws_szShelf.f, laws_szIntS.f]
  rw [w64 (by omega) (by omega), if_neg (by omega)]
  simp only [Option.bind_some]
  rw [if_neg (by omega)]
theorem laws_szShelf_no (l : List Int) (c : Int) (h : ¬ l.length ≤ 1048576) (hm : l.length ≤ maxLen) : laws_szShelf.f l c 1048576 = some (-1) := by
  unfold maxLen at hm
  simp only [laws_szShelf.f, laws_szIntS.f]
  rw [w64 (by omega) (by omega), if_pos (by omega)]
  simp
theorem laws_toShelf_ev (l : List Int) (c : Int) (h : l.length ≤ 1048576) : Ev (fun k => laws_toShelf.f k l c) (l, c) := by
  simp only [laws_toShelf.f]
  exact ev_map (laws_toIntS_ev l h) rfl
theorem laws_eqShelf_ev (l : List Int) (c : Int) (h : l.length ≤ 1048576) : Ev (fun k => laws_eqShelf.f k l c l c) true := by
  simp only [laws_eqShelf.f]
  refine Ev.bind (laws_eqIntS_ev l l (by omega)) ?_
  simp only [decide_true, if_true]
  exact Ev.now _
def shOk (l : List Int) (c : Int) : Bool := decide (1 ≤ (l.length : Int) ∧ (l.length : Int) ≤ 8) && ((l.all fun x => decide (1 ≤ x ∧ x ≤ 100)) && decide (0 ≤ c ∧ c ≤ 10))
theorem shOk_len {l : List Int} {c : Int} (h : shOk l c = true) : 1 ≤ l.length ∧ l.length ≤ 8 := by
  simp only [shOk, Bool.and_eq_true, decide_eq_true_eq] at h
  omega
theorem shOk_all {l : List Int} {c : Int} (h : shOk l c = true) : ∀ x ∈ l, 1 ≤ x ∧ x ≤ 100 := by
  simp only [shOk, Bool.and_eq_true, List.all_eq_true, decide_eq_true_eq] at h
  exact h.2.1
theorem shOk_cover {l : List Int} {c : Int} (h : shOk l c = true) : 0 ≤ c ∧ c ≤ 10 := by
  simp only [shOk, Bool.and_eq_true, decide_eq_true_eq] at h
  exact h.2.2
theorem spec_shGood_ev (l : List Int) (c : Int) (hl : l.length ≤ 1048576) : Ev (fun k => spec_shGood.f k l c) (shOk l c) := by
  simp only [spec_shGood.f, shOk]
  refine ev_some (spec_l1In_eq _ _ _) ?_
  by_cases a : 1 ≤ (l.length : Int) ∧ (l.length : Int) ≤ 8
  · simp only [a, and_self, decide_true, if_true, Bool.true_and]
    refine Ev.bind (spec_l1All_ev 1 100 l (by omega)) ?_
    by_cases b : (l.all fun x => decide (1 ≤ x ∧ x ≤ 100)) = true
    · simp only [b, if_true, Bool.true_and]
      refine ev_some (spec_l1In_eq _ _ _) ?_
      exact Ev.now _
    · simp only [b, Bool.false_eq_true, if_false, Bool.false_and]
      exact Ev.now _
  · simp only [a, decide_false, Bool.false_and, Bool.false_eq_true, if_false]
    exact Ev.now _
theorem impl_IsShelf_ev (l : List Int) (c : Int) (hl : l.length ≤ 1048576) : Ev (fun k => impl_IsShelf.f k l c) (shOk l c) := by
  simp only [impl_IsShelf.f, shOk]
  refine ev_some (impl_within_eq _ _ _) ?_
  by_cases a : 1 ≤ (l.length : Int) ∧ (l.length : Int) ≤ 8
  · simp only [a, and_self, decide_true, if_true, Bool.true_and]
    refine Ev.bind (impl_allWithin_ev 1 100 l (by omega)) ?_
    by_cases b : (l.all fun x => decide (1 ≤ x ∧ x ≤ 100)) = true
    · simp only [b, if_true, Bool.true_and]
      refine ev_some (impl_within_eq _ _ _) ?_
      exact Ev.now _
    · simp only [b, Bool.false_eq_true, if_false, Bool.false_and]
      exact Ev.now _
  · simp only [a, decide_false, Bool.false_and, Bool.false_eq_true, if_false]
    exact Ev.now _

theorem impl_has_ev (l : List Int) (c : Int) (vs : List Int) (hl : l.length ≤ 1048576) (hv : vs.length ≤ 2) : Ev (fun k => impl_Shelf_has.f k l c vs) (vs.all fun v => decide (0 ≤ v ∧ v ≤ (l.length : Int) - 1)) := by
  simp only [impl_Shelf_has.f]
  rw [w64 (by omega) (by omega)]
  exact ev_map (impl_allWithin_ev 0 ((l.length : Int) - 1) vs (by omega)) rfl

def both (l : List Int) (c v : Int) : Bool := shOk l c && decide (0 ≤ v ∧ v ≤ (l.length : Int) - 1)
theorem both_nat {l : List Int} {c v : Int} (h : both l c v = true) : shOk l c = true ∧ ∃ n : Nat, v = (n : Int) ∧ n < l.length := by
  simp only [both, Bool.and_eq_true, decide_eq_true_eq] at h
  exact ⟨h.1, v.toNat, by omega, by omega⟩
theorem spec_shBoth_ev (l : List Int) (c v : Int) (hl : l.length ≤ 1048576) : Ev (fun k => spec_shBoth.f k l c v) (both l c v) := by
  simp only [spec_shBoth.f, both]
  refine Ev.bind (spec_shGood_ev l c hl) ?_
  by_cases a : shOk l c = true
  · simp only [a, if_true, Bool.true_and]
    refine ev_some (spec_l1In_eq _ _ _) ?_
    rw [w64 (by omega) (by omega)]
    exact Ev.now _
  · simp only [a, Bool.false_eq_true, if_false, Bool.false_and]
    exact Ev.now _

/-- Where a face is, counted in threes; and what lies between two faces. -/
def p3 (n : Nat) (last : Bool) : Int := 3 * (n : Int) + (if last = true then 1 else 2)
def cov3 : Nat → Int → Int
  | 0, _ => 0
  | t + 1, x => if x % 3 = 1 then cov3 t (x + 1) else 1 + cov3 t (x + 1)
def vol3 : Nat → Int → List Int
  | 0, _ => []
  | t + 1, x => if x % 3 = 1 then (x / 3) :: vol3 t (x + 1) else vol3 t (x + 1)
def t3 (n : Nat) (la : Bool) (m : Nat) (lb : Bool) : Nat := (mx (p3 n la) (p3 m lb) - mn (p3 n la) (p3 m lb)).toNat
def covs (n : Nat) (la : Bool) (m : Nat) (lb : Bool) : Int := cov3 (t3 n la m lb) (mn (p3 n la) (p3 m lb))
def vols (n : Nat) (la : Bool) (m : Nat) (lb : Bool) : List Int := vol3 (t3 n la m lb) (mn (p3 n la) (p3 m lb))
theorem impl_eaten_ev (n m : Nat) (hn : n < 8) (hm : m < 8) (la lb : Bool) : Ev (fun k => impl_eaten.f k (n : Int) la (m : Int) lb) (covs n la m lb, vols n la m lb) := by
  have e1 : ∀ (n : Nat) (la : Bool), n < 8 → impl_eaten_1.f (n : Int) la = some (p3 n la) := by
    intro n la hn
    simp only [impl_eaten_1.f, p3]
    rw [w64 (x := 3 * (n : Int)) (by omega) (by omega), w64 (by omega) (by omega), w64 (by omega) (by omega)]
    cases la <;> rfl
  have key : ∀ (t : Nat) (x s : Int) (ys : List Int) (p q : Int), x + t = mx p q → 0 ≤ x → mx p q ≤ 100 → 0 ≤ s → s ≤ x → (ys.length : Int) ≤ x → Ev (fun k => impl_eaten.l0 k p q s ys x) (s + cov3 t x, ys ++ vol3 t x) := by
    intro t
    induction t with
    | zero =>
      intro x s ys p q h hx hm hs h1 h2
      refine ev_succ ?_
      simp only [impl_eaten.l0, cov3, vol3, Int.add_zero, List.append_nil]
      refine ev_else (by omega) ?_
      exact Ev.now _
    | succ t ih =>
      intro x s ys p q h hx hm hs h1 h2
      refine ev_succ ?_
      simp only [impl_eaten.l0]
      refine ev_if (by omega) ?_
      by_cases c : x % 3 = 1
      · refine ev_if (by rw [Int.tmod_eq_emod_of_nonneg hx]; exact c) ?_
        refine ev_if (by omega) ?_
        rw [Int.tdiv_eq_ediv_of_nonneg hx, w64 (x := x / 3) (by omega) (by omega), w64 (by omega) (by omega)]
        have := ih (x + 1) s (ys ++ [x / 3]) p q (by omega) (by omega) hm hs (by omega) (by rw [List.length_append, List.length_singleton]; omega)
        simpa only [cov3, vol3, if_pos c, List.append_assoc, List.cons_append, List.nil_append] using this
      · refine ev_else (by rw [Int.tmod_eq_emod_of_nonneg hx]; exact c) ?_
        rw [w64 (x := s + 1) (by omega) (by omega), w64 (by omega) (by omega)]
        have := ih (x + 1) (s + 1) ys p q (by omega) (by omega) hm (by omega) (by omega) (by omega)
        simpa only [cov3, vol3, if_neg c, Int.add_assoc] using this
  simp only [impl_eaten.f, e1 n la hn, e1 m lb hm, Option.bind_some]
  have b1 : 1 ≤ p3 n la ∧ p3 n la ≤ 50 := by unfold p3; split <;> omega
  have b2 : 1 ≤ p3 m lb ∧ p3 m lb ≤ 50 := by unfold p3; split <;> omega
  have b3 : mn (p3 n la) (p3 m lb) ≤ mx (p3 n la) (p3 m lb) ∧ 1 ≤ mn (p3 n la) (p3 m lb) ∧ mx (p3 n la) (p3 m lb) ≤ 50 := by
    unfold mn mx
    split <;> split <;> omega
  have := key (t3 n la m lb) (mn (p3 n la) (p3 m lb)) 0 [] (p3 n la) (p3 m lb) (by unfold t3; omega) (by omega) (by omega) (by omega) (by omega) (by simp; omega)
  simpa only [Int.zero_add, List.nil_append, covs, vols] using this
theorem has_both (l : List Int) (c a b : Int) (e : shOk l c = true) : ([a, b].all fun v => decide (0 ≤ v ∧ v ≤ (l.length : Int) - 1)) = (both l c a && both l c b) := by
  simp only [both, e, Bool.true_and, List.all_cons, List.all_nil, Bool.and_true]

/-- How wide volumes are together. -/
def lf (c : Int) : List Int → Int
  | [] => 0
  | x :: l => x + 2 * c + lf c l
theorem lf_app (c : Int) : ∀ (a b : List Int), lf c (a ++ b) = lf c a + lf c b
  | [], b => by simp [lf]
  | x :: a, b => by simp only [List.cons_append, lf, lf_app c a b]; omega
theorem lf_succ (c : Int) (l : List Int) (i : Nat) (h : i < l.length) : lf c (l.take (i + 1)) = lf c (l.take i) + (l[i] + 2 * c) := by
  rw [List.take_succ_eq_append_getElem h, lf_app]
  simp [lf]
theorem lf_bd (c : Int) (hc : 0 ≤ c ∧ c ≤ 10) : ∀ (l : List Int), (∀ x ∈ l, 1 ≤ x ∧ x ≤ 100) → 0 ≤ lf c l ∧ lf c l ≤ 120 * (l.length : Int)
  | [], _ => by simp [lf]
  | x :: l, h => by
    have h1 := lf_bd c hc l (fun y hy => h y (List.mem_cons_of_mem _ hy))
    have h2 := h x List.mem_cons_self
    simp only [lf, List.length_cons]
    omega
theorem lf_take_bd {l : List Int} {c : Int} (h : shOk l c = true) (i : Nat) : 0 ≤ lf c (l.take i) ∧ lf c (l.take i) ≤ 960 := by
  have h1 := lf_bd c (shOk_cover h) (l.take i) (fun x hx => shOk_all h x (List.mem_of_mem_take hx))
  have h2 := shOk_len h
  rw [List.length_take] at h1
  omega
theorem spec_shLeft_ev (l : List Int) (c : Int) (h : shOk l c = true) (n : Nat) (hn : n ≤ l.length) : Ev (fun k => spec_shLeft.f k l c (n : Int)) (lf c (l.take n)) := by
  have hc := shOk_cover h
  have hlen := shOk_len h
  have key : ∀ (d i : Nat), i + d = n → Ev (fun k => spec_shLeft.l0 k (lf c (l.take i)) (l.take n) ((l.take n).length : Int) (i : Int) l c) (lf c (l.take n)) := by
    intro d
    induction d with
    | zero =>
      intro i hi
      refine ev_succ ?_
      simp only [spec_shLeft.l0]
      refine ev_else (by rw [List.length_take]; omega) ?_
      exact ev_ret (by rw [show i = n by omega])
    | succ d ih =>
      intro i hi
      have h1 : i < l.length := by omega
      have hx := shOk_all h l[i] (List.getElem_mem h1)
      have hb := lf_take_bd h i
      have hr : rd (l.take n) (i : Int) = l[i] := by
        rw [rd_nat (l.take n) i (by rw [List.length_take]; omega), List.getElem_take]
      refine ev_succ ?_
      simp only [spec_shLeft.l0]
      refine ev_if (by rw [List.length_take]; omega) ?_
      refine ev_if (by omega) ?_
      refine ev_if (by rw [List.length_take]; omega) ?_
      rw [hr, w64s (by omega), w64 (x := 2 * c) (by omega) (by omega), w64 (x := l[i] + 2 * c) (by omega) (by omega), w64 (by omega) (by omega), ← lf_succ c l i h1]
      exact ih (i + 1) (by omega)
  simp only [spec_shLeft.f]
  refine ev_if (by omega) ?_
  refine ev_if (by omega) ?_
  rw [Int.toNat_natCast]
  exact key n 0 (by omega)

/-- Where the face of the first or the last page of a volume is. -/
def fc (l : List Int) (c : Int) (v : Nat) (last : Bool) : Int := lf c (l.take v) + c + (if last = true then 0 else rd l (v : Int))
theorem fc_bd {l : List Int} {c : Int} (h : shOk l c = true) (v : Nat) (hv : v < l.length) (last : Bool) : 0 ≤ fc l c v last ∧ fc l c v last ≤ 1070 := by
  have h1 := lf_take_bd h v
  have h2 := shOk_cover h
  have h3 := shOk_all h l[v] (List.getElem_mem hv)
  unfold fc
  rw [rd_nat l v hv]
  split <;> omega
theorem spec_shFace_ev (l : List Int) (c : Int) (h : shOk l c = true) (v : Nat) (hv : v < l.length) (last : Bool) : Ev (fun k => spec_shFace.f k l c (v : Int) last) (fc l c v last) := by
  have h1 := lf_take_bd h v
  have h2 := shOk_cover h
  have h3 := shOk_all h l[v] (List.getElem_mem hv)
  simp only [spec_shFace.f]
  refine Ev.bind (spec_shLeft_ev l c h v (by omega)) ?_
  unfold fc
  rw [rd_nat l v hv, w64 (x := lf c (l.take v) + c) (by omega) (by omega), w64 (by omega) (by omega)]
  by_cases e : last = true
  · refine ev_if e ?_
    rw [if_pos e, Int.add_zero]
    exact Ev.now _
  · refine ev_else e ?_
    refine ev_if (by omega) ?_
    refine ev_if (by omega) ?_
    rw [if_neg e]
    exact Ev.now _

def marked (m : Int) (n : Nat) : List Int := (List.range n).map fun (j : Nat) => m + (j : Int)
theorem marked_succ (m : Int) (n : Nat) : marked m (n + 1) = marked m n ++ [m + (n : Int)] := by
  unfold marked
  rw [List.range_succ]
  simp
theorem marked_len (m : Int) (n : Nat) : (marked m n).length = n := by simp [marked]
theorem laws_markIntS_ev (l : List Int) (hl : l.length ≤ 1048576) : Ev (fun k => laws_markIntS.f k l 1) (1 + (l.length : Int), marked 1 l.length) := by
  have key : ∀ (d i : Nat), i + d = l.length → Ev (fun k => laws_markIntS.l0 k (marked 1 i ++ l.drop i) (1 + (i : Int)) (i : Int)) (1 + (l.length : Int), marked 1 l.length) := by
    intro d
    induction d with
    | zero =>
      intro i h
      obtain rfl : i = l.length := by omega
      refine ev_succ ?_
      simp only [laws_markIntS.l0]
      refine ev_else (by simp [marked_len]) ?_
      refine ev_ret ?_
      simp
    | succ d ih =>
      intro i h
      have h1 : i < l.length := by omega
      refine Ev.step (f := fun k => laws_markIntS.l0 k (marked 1 (i + 1) ++ l.drop (i + 1)) (1 + ((i + 1 : Nat) : Int)) ((i + 1 : Nat) : Int)) (fun k => ?_) (ih (i + 1) (by omega))
      simp only [laws_markIntS.l0]
      rw [if_pos (by simp [marked_len]; omega), if_pos (by omega), w64s (by omega), Int.toNat_natCast, List.drop_eq_getElem_cons h1, set_app _ _ _ _ _ (by simp [marked_len]), w64 (by omega) (by omega), marked_succ]
      simp only [List.append_assoc, List.singleton_append, Int.natCast_succ, Int.add_assoc]
  refine ev_eq (f := fun k => laws_markIntS.l0 k (marked 1 0 ++ l.drop 0) (1 + ((0 : Nat) : Int)) ((0 : Nat) : Int)) ?_ (key l.length 0 (by omega))
  funext k
  simp only [laws_markIntS.f]
  simp [marked]
theorem laws_heldIntS_ev (n : Nat) (hl : n ≤ 1048576) : Ev (fun k => laws_heldIntS.f k (marked 1 n) 1) (1 + (n : Int)) := by
  have key : ∀ (d i : Nat), i + d = n → Ev (fun k => laws_heldIntS.l0 k (marked 1 n) (1 + (i : Int)) (i : Int)) (1 + (n : Int)) := by
    intro d
    induction d with
    | zero =>
      intro i h
      obtain rfl : i = n := by omega
      refine ev_succ ?_
      simp only [laws_heldIntS.l0]
      refine ev_else (by simp [marked_len]) ?_
      exact ev_ret rfl
    | succ d ih =>
      intro i h
      refine Ev.step (f := fun k => laws_heldIntS.l0 k (marked 1 n) (1 + ((i + 1 : Nat) : Int)) ((i + 1 : Nat) : Int)) (fun k => ?_) (ih (i + 1) (by omega))
      simp only [laws_heldIntS.l0]
      rw [if_pos (by simp [marked_len]; omega), if_pos (by omega), rd_nat _ i (by simp [marked_len]; omega), if_pos (by simp [marked]), w64s (by omega), w64 (by omega) (by omega)]
      simp only [Int.natCast_succ, Int.add_assoc]
  refine ev_eq (f := fun k => laws_heldIntS.l0 k (marked 1 n) (1 + ((0 : Nat) : Int)) ((0 : Nat) : Int)) ?_ (key n 0 (by omega))
  funext k
  simp only [laws_heldIntS.f]
  simp

theorem laws_markShelf_ev (l : List Int) (c : Int) (hl : l.length ≤ 1048576) : Ev (fun k => laws_markShelf.f k l c 1) (1 + (l.length : Int), marked 1 l.length) := by
  simp only [laws_markShelf.f]
  exact ev_map (laws_markIntS_ev l hl) rfl

def first (n : Nat) (la : Bool) (v : Nat) : Bool := if la = true then decide (n ≤ v) else decide (n < v)
def last (n : Nat) (la : Bool) (v : Nat) : Bool := if la = true then decide (v < n) else decide (v ≤ n)
def test (n : Nat) (la : Bool) (m : Nat) (lb : Bool) (v : Nat) : Bool := (first n la v || first m lb v) && (last n la v || last m lb v)
def flt (p : Nat → Bool) : Nat → Nat → List Int
  | 0, _ => []
  | d + 1, i => if p i = true then (i : Int) :: flt p d (i + 1) else flt p d (i + 1)
theorem flt_len (p : Nat → Bool) : ∀ (d i : Nat), (flt p d i).length ≤ d
  | 0, _ => Nat.le_refl 0
  | d + 1, i => by
    have h := flt_len p d (i + 1)
    simp only [flt]
    split
    · rw [List.length_cons]; omega
    · omega
theorem vol_same : ∀ d < 9, ∀ n < d, ∀ m < d, ∀ la lb : Bool, flt (test n la m lb) d 0 = vols n la m lb := by decide +kernel
theorem lf_mono {l : List Int} {c : Int} (h : shOk l c = true) (i : Nat) : ∀ j, i ≤ j → j ≤ l.length → lf c (l.take i) + (j - i : Nat) ≤ lf c (l.take j) := by
  intro j
  induction j with
  | zero =>
    intro hi hj
    rw [show i = 0 by omega]
    simp
  | succ j ih =>
    intro hi hj
    have hc := shOk_cover h
    have hx := shOk_all h l[j] (List.getElem_mem (by omega))
    by_cases e : i = j + 1
    · rw [e]; simp
    · have h2 := ih (by omega) (by omega)
      rw [lf_succ c l j (by omega)]
      omega
theorem cmp1 {l : List Int} {c : Int} (h : shOk l c = true) (v u : Nat) (hv : v < l.length) (hu : u < l.length) (la : Bool) : (fc l c v true ≥ fc l c u la) ↔ first u la v = true := by
  have hc := shOk_cover h
  have hx := shOk_all h l[v] (List.getElem_mem hv)
  have hy := shOk_all h l[u] (List.getElem_mem hu)
  have sv := lf_succ c l v hv
  have su := lf_succ c l u hu
  unfold fc first
  rw [rd_nat l u hu]
  cases la with
  | true =>
    simp only [if_true, decide_eq_true_eq]
    by_cases k : u ≤ v
    · have := lf_mono h u v k (by omega)
      constructor
      · intro _; exact k
      · intro _; omega
    · have := lf_mono h (v + 1) u (by omega) (by omega)
      constructor
      · intro _; omega
      · intro e; exact absurd e k
  | false =>
    simp only [if_true, Bool.false_eq_true, if_false, decide_eq_true_eq]
    by_cases k : u < v
    · have := lf_mono h (u + 1) v (by omega) (by omega)
      constructor
      · intro _; exact k
      · intro _; omega
    · have := lf_mono h v u (by omega) (by omega)
      constructor
      · intro _; omega
      · intro e; exact absurd e k
theorem cmp2 {l : List Int} {c : Int} (h : shOk l c = true) (v u : Nat) (hv : v < l.length) (hu : u < l.length) (la : Bool) : (fc l c v false ≤ fc l c u la) ↔ last u la v = true := by
  have hc := shOk_cover h
  have hx := shOk_all h l[v] (List.getElem_mem hv)
  have hy := shOk_all h l[u] (List.getElem_mem hu)
  have sv := lf_succ c l v hv
  have su := lf_succ c l u hu
  unfold fc last
  rw [rd_nat l u hu, rd_nat l v hv]
  cases la with
  | true =>
    simp only [if_true, Bool.false_eq_true, if_false, decide_eq_true_eq]
    by_cases k : v < u
    · have := lf_mono h (v + 1) u (by omega) (by omega)
      constructor
      · intro _; exact k
      · intro _; omega
    · have := lf_mono h u v (by omega) (by omega)
      constructor
      · intro _; omega
      · intro e; exact absurd e k
  | false =>
    simp only [Bool.false_eq_true, if_false, decide_eq_true_eq]
    by_cases k : v ≤ u
    · have := lf_mono h (v + 1) (u + 1) (by omega) (by omega)
      constructor
      · intro _; exact k
      · intro _; omega
    · have := lf_mono h (u + 1) v (by omega) (by omega)
      constructor
      · intro _; omega
      · intro e; exact absurd e k
theorem spec_l1Least_eq (a b : Int) : spec_l1Least.f a b = some (if a < b then a else b) := by
  unfold spec_l1Least.f
  split <;> rfl
theorem spec_l1Most_eq (a b : Int) : spec_l1Most.f a b = some (if a > b then a else b) := by
  unfold spec_l1Most.f
  split <;> rfl
theorem spec_loop (l : List Int) (c : Int) (h : shOk l c = true) (n m : Nat) (hn : n < l.length) (hm : m < l.length) (la lb : Bool) : ∀ (d i : Nat) (xs : List Int), i + d = l.length → xs.length ≤ i → Ev (fun k => spec_PagesEaten.l0 k (if fc l c n la < fc l c m lb then fc l c n la else fc l c m lb) (if fc l c n la > fc l c m lb then fc l c n la else fc l c m lb) xs (l.length : Int) (i : Int) l c) (xs ++ flt (test n la m lb) d i, true) := by
  have h8 := shOk_len h
  intro d
  induction d with
  | zero =>
    intro i xs hi hx
    refine ev_succ ?_
    simp only [spec_PagesEaten.l0, flt, List.append_nil]
    refine ev_else (by omega) ?_
    exact Ev.now _
  | succ d ih =>
    intro i xs hi hx
    have hi' : i < l.length := by omega
    have c1 := cmp1 h i n hi' hn la
    have c2 := cmp1 h i m hi' hm lb
    have c3 := cmp2 h i n hi' hn la
    have c4 := cmp2 h i m hi' hm lb
    refine ev_succ ?_
    simp only [spec_PagesEaten.l0]
    refine ev_if (by omega) ?_
    refine Ev.bind (spec_shFace_ev l c h i hi' true) ?_
    have go : test n la m lb i = false → Ev (fun k => spec_PagesEaten.l0 k (if fc l c n la < fc l c m lb then fc l c n la else fc l c m lb) (if fc l c n la > fc l c m lb then fc l c n la else fc l c m lb) xs (l.length : Int) (wrap64 ((i : Int) + 1)) l c) (xs ++ flt (test n la m lb) (d + 1) i, true) := by
      intro e
      rw [w64s (by omega)]
      have := ih (i + 1) xs (by omega) (by omega)
      simpa only [flt, e, Bool.false_eq_true, if_false] using this
    by_cases a : (first n la i || first m lb i) = true
    · have a2 : fc l c i true ≥ (if fc l c n la < fc l c m lb then fc l c n la else fc l c m lb) := by
        rw [Bool.or_eq_true, ← c1, ← c2] at a
        split <;> omega
      refine ev_if a2 ?_
      refine Ev.bind (spec_shFace_ev l c h i hi' false) ?_
      by_cases b : (last n la i || last m lb i) = true
      · have b2 : fc l c i false ≤ (if fc l c n la > fc l c m lb then fc l c n la else fc l c m lb) := by
          rw [Bool.or_eq_true, ← c3, ← c4] at b
          split <;> omega
        refine ev_if b2 ?_
        refine ev_if (by omega) ?_
        rw [w64s (by omega)]
        have e : test n la m lb i = true := by simp only [test, a, b, Bool.and_self]
        have := ih (i + 1) (xs ++ [(i : Int)]) (by omega) (by rw [List.length_append, List.length_singleton]; omega)
        simpa only [flt, e, if_true, List.append_assoc, List.cons_append, List.nil_append] using this
      · have b2 : ¬ fc l c i false ≤ (if fc l c n la > fc l c m lb then fc l c n la else fc l c m lb) := by
          rw [Bool.or_eq_true, ← c3, ← c4] at b
          split <;> omega
        refine ev_else b2 ?_
        simp only [Bool.not_eq_true] at b
        exact go (by simp only [test, b, Bool.and_false])
    · have a2 : ¬ fc l c i true ≥ (if fc l c n la < fc l c m lb then fc l c n la else fc l c m lb) := by
        rw [Bool.or_eq_true, ← c1, ← c2] at a
        split <;> omega
      refine ev_else a2 ?_
      simp only [Bool.not_eq_true] at a
      exact go (by simp only [test, a, Bool.false_and])
theorem same (l : List Int) (c a : Int) (la : Bool) (b : Int) (lb : Bool) (hl : l.length ≤ 1048576) (hw : ∀ x ∈ l, (Lit.int .i64 x).wf = true) (hc : (Lit.int .i64 c).wf = true) (ha : (Lit.int .i64 a).wf = true) (hb : (Lit.int .i64 b).wf = true) : ∃ r, Ev (fun k => spec_PagesEaten.f k l c a la b lb) r ∧ Ev (fun k => impl_PagesEaten.f k l c a la b lb) r ∧ r.1.length ≤ 1048576 := by
  by_cases g : both l c a = true ∧ both l c b = true
  · obtain ⟨h, n, rfl, hn⟩ := both_nat g.1
    obtain ⟨_, m, rfl, hm⟩ := both_nat g.2
    have h8 := shOk_len h
    have hv := vol_same l.length (by omega) n hn m hm la lb
    have hlen := flt_len (test n la m lb) l.length 0
    refine ⟨(vols n la m lb, true), ?_, ?_, by rw [← hv]; exact Nat.le_trans hlen (by omega)⟩
    · simp only [spec_PagesEaten.f]
      refine Ev.bind (spec_shBoth_ev l c _ hl) ?_
      simp only [g.1, if_true]
      refine Ev.bind (spec_shBoth_ev l c _ hl) ?_
      simp only [g.2, Bool.not_true]
      refine ev_succ ?_
      simp only [spec_PagesEaten.j0, Bool.false_eq_true, if_false, spec_shSpan.f]
      have hsp : Ev (fun k => (spec_shFace.f k l c (n : Int) la).bind fun t141 => ((spec_shFace.f k l c (m : Int) lb).bind fun t142 => ((spec_l1Least.f t141 t142).bind fun t143 => ((spec_l1Most.f t141 t142).bind fun t144 => (some (t143, t144)))))) ((if fc l c n la < fc l c m lb then fc l c n la else fc l c m lb), (if fc l c n la > fc l c m lb then fc l c n la else fc l c m lb)) := by
        refine Ev.bind (spec_shFace_ev l c h n hn la) ?_
        refine Ev.bind (spec_shFace_ev l c h m hm lb) ?_
        rw [spec_l1Least_eq, spec_l1Most_eq]
        exact Ev.now _
      refine Ev.bind hsp ?_
      rw [← hv]
      exact spec_loop l c h n m hn hm la lb l.length 0 [] (by omega) (by simp)
    · simp only [impl_PagesEaten.f]
      refine Ev.bind (impl_IsShelf_ev l c hl) ?_
      simp only [h, if_true]
      refine Ev.bind (impl_has_ev l c _ hl (by simp)) ?_
      rw [has_both l c _ _ h, g.1, g.2]
      simp only [Bool.and_self, if_true]
      exact ev_map (impl_eaten_ev n m (by omega) (by omega) la lb) rfl
  · refine ⟨([], false), ?_, ?_, by simp⟩
    · simp only [spec_PagesEaten.f]
      refine Ev.bind (spec_shBoth_ev l c _ hl) ?_
      by_cases e : both l c a = true
      · simp only [e, if_true]
        refine Ev.bind (spec_shBoth_ev l c _ hl) ?_
        have e2 : both l c b = false := by
          by_cases z : both l c b = true
          · exact absurd ⟨e, z⟩ g
          · simpa using z
        simp only [e2, Bool.not_false]
        refine ev_succ ?_
        simp only [spec_PagesEaten.j0, if_true]
        exact Ev.now _
      · simp only [e, Bool.false_eq_true, if_false]
        refine ev_succ ?_
        simp only [spec_PagesEaten.j0, if_true]
        exact Ev.now _
    · simp only [impl_PagesEaten.f]
      refine Ev.bind (impl_IsShelf_ev l c hl) ?_
      by_cases e : shOk l c = true
      · simp only [e, if_true]
        refine Ev.bind (impl_has_ev l c _ hl (by simp)) ?_
        rw [has_both l c _ _ e]
        have g2 : ¬ (both l c a && both l c b) = true := by
          rw [Bool.and_eq_true]
          exact g
        simp only [g2, Bool.false_eq_true, if_false]
        exact Ev.now _
      · simp only [e, Bool.false_eq_true, if_false]
        exact Ev.now _
theorem FnExactPagesEaten : ∀ (l : List Int) (c : Int) (a : Int) (la : Bool) (b : Int) (lb : Bool), l.length ≤ maxLen → (∀ x ∈ l, (Lit.int .i64 x).wf = true) → (Lit.int .i64 c).wf = true → (Lit.int .i64 a).wf = true → (Lit.int .i64 b).wf = true → ∃ k, laws_FnExactPagesEaten.f k l c a la b lb = some true := by
  intro l c a la b lb hm hw hc wa wb
  refine Ev.rounds (r := true) ?_
  by_cases hl : l.length ≤ 1048576
  · obtain ⟨r, h1, h2, hr⟩ := same l c a la b lb hl hw hc wa wb
    simp only [laws_FnExactPagesEaten.f]
    refine ev_some (laws_szShelf_ok l c hl) ?_
    refine ev_else (by omega) ?_
    repeat (first
      | exact Ev.now _
      | (dsimp only)
      | (with_reducible refine Ev.bind h1 ?_)
      | (with_reducible refine Ev.bind h2 ?_)
      | (with_reducible refine Ev.bind (laws_toShelf_ev _ _ (by omega)) ?_)
      | (with_reducible refine Ev.bind (laws_eqShelf_ev _ _ (by omega)) ?_)
      | (with_reducible refine Ev.bind (laws_markShelf_ev _ _ (by omega)) ?_)
      | (with_reducible refine Ev.bind (laws_eqIntS_ev _ _ (by omega)) ?_)
      | (with_reducible refine Ev.bind (laws_markIntS_ev _ (by omega)) ?_)
      | (with_reducible refine Ev.bind (laws_heldIntS_ev _ (by omega)) ?_)
      | (simp only [decide_true, if_true, bne_self_eq_false, Bool.false_eq_true, if_false, neg_no])
      | (refine ev_succ ?_; simp only [laws_FnExactPagesEaten.j0, laws_FnExactPagesEaten.j1, laws_FnExactPagesEaten.j2]))
  · simp only [laws_FnExactPagesEaten.f]
    refine ev_some (laws_szShelf_no l c hl hm) ?_
    refine ev_if (by omega) ?_
    exact Ev.now _

end Go.Proofs.Ytiedpggapckieaa.Pure
