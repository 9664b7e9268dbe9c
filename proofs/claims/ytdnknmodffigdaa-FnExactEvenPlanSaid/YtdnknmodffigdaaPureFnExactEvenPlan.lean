/- The plain law behind FnExactEvenPlan, in lists and numbers alone: the program's and the reference's even plan are one. No condition beyond the printed bounds. -/
import Derived.Test.YtdnknmodffigdaaPFnExactEvenPlanx2
set_option linter.unusedVariables false
set_option linter.unusedSimpArgs false
namespace Go.Proofs.Ytdnknmodffigdaa.Pure
open Go.RowKit Go.Proofs.Ytdnknmodffigdaa.PFnExactEvenPlan Go.Proofs.YtdnknmodffigdaaW.PrintWords Go.Proofs.YtdnknmodffigdaaW.PrintLast Go.Proofs.YtdnknmodffigdaaW.PrintMore
/-! ### Small words: rounds, reads, sums without a wrap. -/
theorem ev_some {α β : Type} {g : Option α} {f : Nat → α → Option β} {a : α} {r : β} (h : g = some a) (k : Ev (fun n => f n a) r) : Ev (fun n => g.bind (f n)) r := by
  subst h
  exact k
theorem ev_ret {α : Type} {r s : α} (h : r = s) : Ev (fun _ => some r) s := by
  subst h
  exact Ev.now r
theorem ev_map {α β : Type} {g : Nat → Option α} {f : α → β} {a : α} {r : β} (h : Ev g a) (e : f a = r) : Ev (fun n => (g n).bind fun t => some (f t)) r := Ev.bind h (ev_ret e)
theorem ev_eq {α : Type} {g f : Nat → Option α} {r : α} (h : g = f) (k : Ev f r) : Ev g r := by
  rw [h]
  exact k
theorem w64 {x : Int} (h0 : -9223372036854775808 ≤ x) (h1 : x ≤ 9223372036854775807) : wrap64 x = x := by
  unfold wrap64
  omega
theorem w64s {i : Nat} (h : i < 4611686018427387904) : wrap64 ((i : Int) + 1) = ((i + 1 : Nat) : Int) := by
  rw [w64 (by omega) (by omega)]
  rfl
theorem rd_nat (l : List Int) (i : Nat) (h : i < l.length) : rd l (i : Int) = l[i] := by
  unfold rd
  rw [Int.toNat_natCast, List.getD_eq_getElem?_getD, List.getElem?_eq_getElem h]
  rfl
theorem wf_i64 {x : Int} (h : (Lit.int .i64 x).wf = true) : -9223372036854775808 ≤ x ∧ x ≤ 9223372036854775807 := by
  simp only [Lit.wf, Bool.and_eq_true, decide_eq_true_eq] at h
  exact h
theorem ev_succ {α : Type} {g : Nat → Option α} {r : α} (h : Ev (fun k => g (k + 1)) r) : Ev g r := Ev.step (fun _ => rfl) h
theorem neg_no (n : Nat) : ¬ (1 + (n : Int) < 0) := by omega
theorem ev_if {α : Type} {c : Prop} [Decidable c] {g f : Nat → Option α} {r : α} (h : c) (k : Ev g r) : Ev (fun n => if c then g n else f n) r := Ev.congr (fun _ => if_pos h) k
theorem ev_else {α : Type} {c : Prop} [Decidable c] {g f : Nat → Option α} {r : α} (h : ¬ c) (k : Ev f r) : Ev (fun n => if c then g n else f n) r := Ev.congr (fun _ => if_neg h) k

theorem spec_l1In_eq (x lo hi : Int) : spec_l1In.f x lo hi = some (decide (lo ≤ x ∧ x ≤ hi)) := by
  unfold spec_l1In.f
  by_cases c : x ≥ lo
  · rw [if_pos c]
    congr 1
    simp only [c, true_and]
  · rw [if_neg c]
    congr 1
    exact (decide_eq_false (fun h => c h.1)).symm

theorem impl_within_eq (x lo hi : Int) : impl_within.f x lo hi = some (decide (lo ≤ x ∧ x ≤ hi)) := by
  unfold impl_within.f
  by_cases c : x ≥ lo
  · rw [if_pos c]
    congr 1
    simp only [c, true_and]
  · rw [if_neg c]
    congr 1
    exact (decide_eq_false (fun h => c h.1)).symm

theorem spec_bpBook_eq (p : Int) : spec_bpBook.f p = some (decide (1 ≤ p ∧ p ≤ 2000)) := by
  simp only [spec_bpBook.f, spec_l1In_eq, Option.bind_some]
theorem impl_isBook_eq (p : Int) : impl_isBook.f p = some (decide (1 ≤ p ∧ p ≤ 2000)) := by
  simp only [impl_isBook.f, impl_within_eq, Option.bind_some]

theorem div_is {a b q : Int} (hb : 0 < b) (h1 : q * b ≤ a) (h2 : a < (q + 1) * b) : a / b = q := by
  have h3 := Int.le_ediv_of_mul_le hb h1
  have h4 := Int.ediv_lt_of_lt_mul hb h2
  omega
/-- What is left after j days: q a day, and one more on the first r days. -/
def rest (q r D : Int) (j : Int) : Int := q * (D - j) + (if j < r then r - j else 0)
/-- What is read on day j. -/
def today (q r : Int) (j : Int) : Int := q + (if j < r then 1 else 0)
theorem rest_step (q r D j : Int) (hr : 0 ≤ r ∧ r < D) (hj : 0 ≤ j ∧ j < D) : rest q r D (j + 1) = rest q r D j - today q r j := by
  unfold rest today
  have e : q * (D - j) = q * (D - (j + 1)) + q := by
    rw [show D - j = (D - (j + 1)) + 1 by omega, Int.mul_add, Int.mul_one]
  rw [e]
  by_cases c : j < r
  · rw [if_pos c, if_pos c]
    by_cases d : j + 1 < r
    · rw [if_pos d]
      omega
    · rw [if_neg d]
      omega
  · rw [if_neg c, if_neg c, if_neg (by omega)]
    omega
theorem rest_div (q r D j : Int) (hr : 0 ≤ r ∧ r < D) (hj : 0 ≤ j ∧ j < D) : (rest q r D j + (D - j) - 1) / (D - j) = today q r j := by
  refine div_is (by omega) ?_ ?_
  · unfold rest today
    by_cases c : j < r
    · rw [if_pos c, if_pos c, Int.add_mul, Int.one_mul]
      omega
    · rw [if_neg c, if_neg c, Int.add_zero, Int.add_zero]
      omega
  · unfold rest today
    by_cases c : j < r
    · rw [if_pos c, if_pos c, Int.add_mul, Int.add_mul, Int.one_mul]
      omega
    · rw [if_neg c, if_neg c, Int.add_zero, Int.add_zero, Int.add_mul, Int.one_mul]
      omega
theorem rest_bd (q r D j B : Int) (hq : 0 ≤ q) (hr : 0 ≤ r ∧ r < D) (hj : 0 ≤ j ∧ j ≤ D) (hB : q * D + r ≤ B) : 0 ≤ rest q r D j ∧ rest q r D j ≤ B := by
  unfold rest
  have h1 : 0 ≤ q * (D - j) := Int.mul_nonneg hq (by omega)
  have h2 : q * (D - j) ≤ q * D := Int.mul_le_mul_of_nonneg_left (by omega) hq
  split <;> omega
theorem today_le (q r D j : Int) (hr : 0 ≤ r ∧ r < D) (hj : 0 ≤ j ∧ j < D) (hq : 0 ≤ q) : 0 ≤ today q r j ∧ today q r j ≤ rest q r D j := by
  have h1 := rest_step q r D j hr hj
  unfold rest at h1 ⊢
  have h2 : 0 ≤ q * (D - (j + 1)) := Int.mul_nonneg hq (by omega)
  constructor
  · unfold today
    split <;> omega
  · split at h1 <;> omega

theorem laws_eqIntS_ev (a b : List Int) (hl : a.length ≤ 4611686018427387903) : Ev (fun k => laws_eqIntS.f k a b) (decide (a = b)) := by
  by_cases hlen : a.length = b.length
  · have key : ∀ (d i : Nat), i + d = a.length → Ev (fun k => laws_eqIntS.l0 k a b (i : Int)) (decide (a.drop i = b.drop i)) := by
      intro d
      induction d with
      | zero =>
        intro i h
        rw [List.drop_eq_nil_of_le (by omega), List.drop_eq_nil_of_le (by omega)]
        refine ev_succ ?_
        simp only [laws_eqIntS.l0]
        refine ev_else (by omega) ?_
        exact ev_ret (by simp)
      | succ d ih =>
        intro i h
        have h1 : i < a.length := by omega
        have h2 : i < b.length := by omega
        rw [List.drop_eq_getElem_cons h1, List.drop_eq_getElem_cons h2]
        refine Ev.step (f := fun k => if a[i] = b[i] then laws_eqIntS.l0 k a b ((i + 1 : Nat) : Int) else some false) (fun k => by simp only [laws_eqIntS.l0]; rw [if_pos (by omega), if_pos (by omega), if_pos (by omega), rd_nat a i h1, rd_nat b i h2, w64s (by omega)]) ?_
        by_cases c : a[i] = b[i]
        · simp only [c, if_true, List.cons.injEq, true_and]
          exact ih (i + 1) (by omega)
        · simp only [c, if_false, List.cons.injEq, false_and, decide_false]
          exact Ev.now _
    refine ev_eq (f := fun k => laws_eqIntS.l0 k a b ((0 : Nat) : Int)) ?_ (key a.length 0 (by omega))
    funext k
    simp only [laws_eqIntS.f]
    rw [if_pos (by omega)]
    rfl
  · refine ev_eq (f := fun _ => some false) ?_ (ev_ret (by simp; intro h; exact hlen (by rw [h])))
    funext k
    simp only [laws_eqIntS.f]
    rw [if_neg (by omega)]

theorem set_app {α : Type} (a b : List α) (x y : α) (n : Nat) (h : n = a.length) : (a ++ x :: b).set n y = a ++ y :: b := by
  subst h
  simp

def marked (m : Int) (n : Nat) : List Int := (List.range n).map fun (j : Nat) => m + (j : Int)
theorem marked_succ (m : Int) (n : Nat) : marked m (n + 1) = marked m n ++ [m + (n : Int)] := by
  unfold marked
  rw [List.range_succ]
  simp
theorem marked_len (m : Int) (n : Nat) : (marked m n).length = n := by simp [marked]
theorem laws_markIntS_ev (l : List Int) (hl : l.length ≤ 1048576) : Ev (fun k => laws_markIntS.f k l 1) (1 + (l.length : Int), marked 1 l.length) := by
  have key : ∀ (d i : Nat), i + d = l.length → Ev (fun k => laws_markIntS.l0 k (marked 1 i ++ l.drop i) (1 + (i : Int)) (i : Int)) (1 + (l.length : Int), marked 1 l.length) := by
    intro d
    induction d with
    | zero =>
      intro i h
      obtain rfl : i = l.length := by omega
      refine ev_succ ?_
      simp only [laws_markIntS.l0]
      refine ev_else (by simp [marked_len]) ?_
      refine ev_ret ?_
      simp
    | succ d ih =>
      intro i h
      have h1 : i < l.length := by omega
      refine Ev.step (f := fun k => laws_markIntS.l0 k (marked 1 (i + 1) ++ l.drop (i + 1)) (1 + ((i + 1 : Nat) : Int)) ((i + 1 : Nat) : Int)) (fun k => ?_) (ih (i + 1) (by omega))
      simp only [laws_markIntS.l0]
      rw [if_pos (by simp [marked_len]; omega), if_pos (by omega), w64s (by omega), Int.toNat_natCast, List.drop_eq_getElem_cons h1, set_app _ _ _ _ _ (by simp [marked_len]), w64 (by omega) (by omega), marked_succ]
      simp only [List.append_assoc, List.singleton_append, Int.natCast_succ, Int.add_assoc]
  refine ev_eq (f := fun k => laws_markIntS.l0 k (marked 1 0 ++ l.drop 0) (1 + ((0 : Nat) : Int)) ((0 : Nat) : Int)) ?_ (key l.length 0 (by omega))
  funext k
  simp only [laws_markIntS.f]
  simp [marked]
theorem laws_heldIntS_ev (n : Nat) (hl : n ≤ 1048576) : Ev (fun k => laws_heldIntS.f k (marked 1 n) 1) (1 + (n : Int)) := by
  have key : ∀ (d i : Nat), i + d = n → Ev (fun k => laws_heldIntS.l0 k (marked 1 n) (1 + (i : Int)) (i : Int)) (1 + (n : Int)) := by
    intro d
    induction d with
    | zero =>
      intro i h
      obtain rfl : i = n := by omega
      refine ev_succ ?_
      simp only [laws_heldIntS.l0]
      refine ev_else (by simp [marked_len]) ?_
      exact ev_ret rfl
    | succ d ih =>
      intro i h
      refine Ev.step (f := fun k => laws_heldIntS.l0 k (marked 1 n) (1 + ((i + 1 : Nat) : Int)) ((i + 1 : Nat) : Int)) (fun k => ?_) (ih (i + 1) (by omega))
      simp only [laws_heldIntS.l0]
      rw [if_pos (by simp [marked_len]; omega), if_pos (by omega), rd_nat _ i (by simp [marked_len]; omega), if_pos (by simp [marked]), w64s (by omega), w64 (by omega) (by omega)]
      simp only [Int.natCast_succ, Int.add_assoc]
  refine ev_eq (f := fun k => laws_heldIntS.l0 k (marked 1 n) (1 + ((0 : Nat) : Int)) ((0 : Nat) : Int)) ?_ (key n 0 (by omega))
  funext k
  simp only [laws_heldIntS.f]
  simp

theorem walk (L q r : Int) (D : Nat) (hD : D ≤ 3000) (hL : 0 ≤ L ∧ L ≤ 2000) (hq : Int.tdiv L (D : Int) = q) (hr : Int.tmod L (D : Int) = r) (hq0 : 0 ≤ q) (hr0 : 0 ≤ r ∧ r < (D : Int)) (he : q * (D : Int) + r = L) :
    ∀ (d j : Nat) (out : List Int), j + d = D → out.length ≤ j → ∃ w : List Int, Ev (fun k => spec_EvenPlan.l0 k ((D : Int) - (j : Int)) out (rest q r D j)) (w, true) ∧ Ev (fun k => impl_EvenPlan.l0 k (D : Int) out L (D : Int) (j : Int)) (w, true) ∧ w.length ≤ out.length + d := by
  intro d
  induction d with
  | zero =>
    intro j out h ho
    refine ⟨out, ev_succ ?_, ev_succ ?_, by omega⟩
    · simp only [spec_EvenPlan.l0]
      refine ev_else (by omega) ?_
      exact Ev.now _
    · simp only [impl_EvenPlan.l0]
      refine ev_else (by omega) ?_
      exact Ev.now _
  | succ d ih =>
    intro j out h ho
    have hj : 0 ≤ (j : Int) ∧ (j : Int) < (D : Int) := by omega
    have b1 := rest_bd q r D j 2000 hq0 hr0 (by omega) (by omega)
    have b2 := today_le q r D j hr0 hj hq0
    have hdv := rest_div q r D j hr0 hj
    have htd : Int.tdiv (rest q r D j + ((D : Int) - (j : Int)) - 1) ((D : Int) - (j : Int)) = today q r j := by
      rw [Int.tdiv_eq_ediv_of_nonneg (by omega), hdv]
    obtain ⟨w, a1, a2, a3⟩ := ih (j + 1) (out ++ [today q r j]) (by omega) (by rw [List.length_append]; simp only [List.length_cons, List.length_nil]; omega)
    rw [List.length_append] at a3
    simp only [List.length_cons, List.length_nil] at a3
    have e2 : ((j + 1 : Nat) : Int) = (j : Int) + 1 := by omega
    rw [e2] at a1
    rw [rest_step q r D j hr0 hj] at a1
    refine ⟨w, ev_succ ?_, ev_succ ?_, by omega⟩
    · simp only [spec_EvenPlan.l0]
      refine ev_if (by omega) ?_
      refine ev_else (by omega) ?_
      refine ev_if (by omega) ?_
      rw [w64 (x := rest q r D j + ((D : Int) - (j : Int))) (by omega) (by omega), w64 (x := rest q r D j + ((D : Int) - (j : Int)) - 1) (by omega) (by omega), htd, w64 (x := today q r j) (by omega) (by omega), w64 (x := rest q r D j - today q r j) (by omega) (by omega), w64 (x := (D : Int) - (j : Int) - 1) (by omega) (by omega), show (D : Int) - (j : Int) - 1 = (D : Int) - ((j : Int) + 1) by omega]
      exact a1
    · simp only [impl_EvenPlan.l0]
      refine ev_if (by omega) ?_
      refine ev_else (by omega) ?_
      rw [hq, hr, w64s (by omega)]
      unfold today at a2 b2
      by_cases c : (j : Int) < r
      · refine ev_if c ?_
        refine ev_if (by omega) ?_
        rw [if_pos c] at a2 b2
        rw [w64 (x := q) (by omega) (by omega), w64 (x := q + 1) (by omega) (by omega)]
        exact a2
      · refine ev_else c ?_
        refine ev_if (by omega) ?_
        rw [if_neg c] at a2 b2
        rw [Int.add_zero] at a2 b2
        rw [w64 (x := q) (by omega) (by omega)]
        exact a2
theorem same (p m D : Int) (wp : (Lit.int .i64 p).wf = true) (wn : (Lit.int .i64 m).wf = true) (wd : (Lit.int .i64 D).wf = true) : ∃ r, Ev (fun k => spec_EvenPlan.f k p m D) r ∧ Ev (fun k => impl_EvenPlan.f k p m D) r ∧ r.1.length ≤ 1048576 := by
  simp only [spec_EvenPlan.f, impl_EvenPlan.f, spec_rdPlan.f, impl_isMarked.f, impl_isDay.f, spec_bpBook_eq, impl_isBook_eq, spec_l1In_eq, impl_within_eq, Option.bind_some]
  by_cases a : 1 ≤ p ∧ p ≤ 2000
  · by_cases b : 0 ≤ m ∧ m ≤ p
    · by_cases c : 1 ≤ D ∧ D ≤ 3000
      · have eD : ((D.toNat : Nat) : Int) = D := Int.toNat_of_nonneg (by omega)
        have h1 := Int.mul_ediv_add_emod (p - m) D
        have h2 := Int.emod_nonneg (p - m) (show D ≠ 0 by omega)
        have h3 := Int.emod_lt_of_pos (p - m) (show 0 < D by omega)
        have h4 := Int.ediv_nonneg (show 0 ≤ p - m by omega) (show 0 ≤ D by omega)
        obtain ⟨w, a1, a2, a3⟩ := walk (p - m) ((p - m) / D) ((p - m) % D) D.toNat (by omega) (by omega) (by rw [eD]; exact Int.tdiv_eq_ediv_of_nonneg (by omega)) (by rw [eD]; exact Int.tmod_eq_emod_of_nonneg (by omega)) h4 (by rw [eD]; exact ⟨h2, h3⟩) (by rw [eD, Int.mul_comm]; exact h1) D.toNat 0 [] (by omega) (by simp)
        rw [eD] at a1 a2
        rw [List.length_nil] at a3
        have e0 : rest ((p - m) / D) ((p - m) % D) D ((0 : Nat) : Int) = p - m := by
          unfold rest
          rw [Int.mul_comm] at h1
          simp only [Int.natCast_zero, Int.sub_zero]
          split <;> omega
        rw [e0] at a1
        refine ⟨(w, true), ?_, ?_, by simp only; omega⟩
        · simp only [a, b, c, and_self, decide_true, if_true]
          rw [w64 (x := p - m) (by omega) (by omega)]
          simpa using a1
        · simp only [a, b, c, and_self, decide_true, if_true]
          rw [w64 (x := p - m) (by omega) (by omega)]
          simpa using a2
      · refine ⟨([], false), ?_, ?_, by simp⟩
        all_goals
          simp only [a, b, c, and_self, decide_true, if_true, decide_false, Bool.false_eq_true, if_false, Option.bind_some]
          exact Ev.now _
    · refine ⟨([], false), ?_, ?_, by simp⟩
      all_goals
        simp only [a, b, and_self, decide_true, if_true, decide_false, Bool.false_eq_true, if_false, Option.bind_some]
        exact Ev.now _
  · refine ⟨([], false), ?_, ?_, by simp⟩
    all_goals
      simp only [a, decide_false, Bool.false_eq_true, if_false, Option.bind_some]
      exact Ev.now _
theorem FnExactEvenPlan : laws_FnExactEvenPlan.Pure := by
  intro p m D wp wm wD
  refine Ev.rounds (r := true) ?_
  obtain ⟨r, h1, h2, hr⟩ := same p m D wp wm wD
  simp only [laws_FnExactEvenPlan.f]
  repeat (first
    | exact Ev.now _
    | (dsimp only)
    | (with_reducible refine Ev.bind h1 ?_)
    | (with_reducible refine Ev.bind h2 ?_)
    | (with_reducible refine Ev.bind (laws_eqIntS_ev _ _ (by omega)) ?_)
    | (with_reducible refine Ev.bind (laws_markIntS_ev _ (by omega)) ?_)
    | (with_reducible refine Ev.bind (laws_heldIntS_ev _ (by omega)) ?_)
    | (simp only [decide_true, if_true, bne_self_eq_false, Bool.false_eq_true, if_false, neg_no])
    | (refine ev_succ ?_; simp only [laws_FnExactEvenPlan.j0, laws_FnExactEvenPlan.j1]))

end Go.Proofs.Ytdnknmodffigdaa.Pure
