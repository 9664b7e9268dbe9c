/- The plain law behind FnExactPartPlan, in lists and numbers alone: the program's and the reference's plan by parts are one. No condition beyond the printed bounds. -/
import Derived.Test.YtdnknmodffigdaaPFnExactPartPlanx2
set_option linter.unusedVariables false
set_option linter.unusedSimpArgs false
namespace Go.Proofs.Ytdnknmodffigdaa.Pure
open Go.RowKit Go.Proofs.Ytdnknmodffigdaa.PFnExactPartPlan Go.Proofs.YtdnknmodffigdaaW.PrintWords Go.Proofs.YtdnknmodffigdaaW.PrintLast Go.Proofs.YtdnknmodffigdaaW.PrintMore
/-! ### Small words: rounds, reads, sums without a wrap. -/
theorem ev_some {α β : Type} {g : Option α} {f : Nat → α → Option β} {a : α} {r : β} (h : g = some a) (k : Ev (fun n => f n a) r) : Ev (fun n => g.bind (f n)) r := by
  subst h
  exact k
theorem ev_ret {α : Type} {r s : α} (h : r = s) : Ev (fun _ => some r) s := by
  subst h
  exact Ev.now r
theorem ev_map {α β : Type} {g : Nat → Option α} {f : α → β} {a : α} {r : β} (h : Ev g a) (e : f a = r) : Ev (fun n => (g n).bind fun t => some (f t)) r := Ev.bind h (ev_ret e)
theorem ev_eq {α : Type} {g f : Nat → Option α} {r : α} (h : g = f) (k : Ev f r) : Ev g r := by
  rw [h]
  exact k
theorem w64 {x : Int} (h0 : -9223372036854775808 ≤ x) (h1 : x ≤ 9223372036854775807) : wrap64 x = x := by
  unfold wrap64
  omega
theorem w64s {i : Nat} (h : i < 4611686018427387904) : wrap64 ((i : Int) + 1) = ((i + 1 : Nat) : Int) := by
  rw [w64 (by omega) (by omega)]
  rfl
theorem rd_nat (l : List Int) (i : Nat) (h : i < l.length) : rd l (i : Int) = l[i] := by
  unfold rd
  rw [Int.toNat_natCast, List.getD_eq_getElem?_getD, List.getElem?_eq_getElem h]
  rfl
theorem wf_i64 {x : Int} (h : (Lit.int .i64 x).wf = true) : -9223372036854775808 ≤ x ∧ x ≤ 9223372036854775807 := by
  simp only [Lit.wf, Bool.and_eq_true, decide_eq_true_eq] at h
  exact h
theorem ev_succ {α : Type} {g : Nat → Option α} {r : α} (h : Ev (fun k => g (k + 1)) r) : Ev g r := Ev.step (fun _ => rfl) h
theorem neg_no (n : Nat) : ¬ (1 + (n : Int) < 0) := by omega
theorem ev_if {α : Type} {c : Prop} [Decidable c] {g f : Nat → Option α} {r : α} (h : c) (k : Ev g r) : Ev (fun n => if c then g n else f n) r := Ev.congr (fun _ => if_pos h) k
theorem ev_else {α : Type} {c : Prop} [Decidable c] {g f : Nat → Option α} {r : α} (h : ¬ c) (k : Ev f r) : Ev (fun n => if c then g n else f n) r := Ev.congr (fun _ => if_neg h) k

theorem spec_l1In_eq (x lo hi : Int) : spec_l1In.f x lo hi = some (decide (lo ≤ x ∧ x ≤ hi)) := by
  unfold spec_l1In.f
  by_cases c : x ≥ lo
  · rw [if_pos c]
    congr 1
    simp only [c, true_and]
  · rw [if_neg c]
    congr 1
    exact (decide_eq_false (fun h => c h.1)).symm

theorem impl_within_eq (x lo hi : Int) : impl_within.f x lo hi = some (decide (lo ≤ x ∧ x ≤ hi)) := by
  unfold impl_within.f
  by_cases c : x ≥ lo
  · rw [if_pos c]
    congr 1
    simp only [c, true_and]
  · rw [if_neg c]
    congr 1
    exact (decide_eq_false (fun h => c h.1)).symm

theorem spec_bpBook_eq (p : Int) : spec_bpBook.f p = some (decide (1 ≤ p ∧ p ≤ 2000)) := by
  simp only [spec_bpBook.f, spec_l1In_eq, Option.bind_some]
theorem impl_isBook_eq (p : Int) : impl_isBook.f p = some (decide (1 ≤ p ∧ p ≤ 2000)) := by
  simp only [impl_isBook.f, impl_within_eq, Option.bind_some]

def partOk (n d : Int) : Bool := decide (1 ≤ n ∧ n < d ∧ d ≤ 200)
theorem spec_rdPart_eq (n d : Int) : spec_rdPart.f n d = some (partOk n d) := by
  simp only [spec_rdPart.f, spec_l1In_eq, Option.bind_some, partOk]
  by_cases a : 2 ≤ d ∧ d ≤ 200
  · rw [w64 (by omega) (by omega)]
    rw [decide_eq_true a]
    simp only [if_true]
    exact congrArg some (decide_eq_decide.2 (by omega))
  · simp only [a, decide_false, Bool.false_eq_true, if_false]
    congr 1
    exact (decide_eq_false (fun h => a ⟨by omega, h.2.2⟩)).symm
theorem impl_isPart_eq (n d : Int) : impl_isPart.f n d = some (partOk n d) := by
  simp only [impl_isPart.f, impl_within_eq, Option.bind_some, partOk]
  by_cases a : 1 ≤ n ∧ n ≤ 200
  · rw [w64 (by omega) (by omega)]
    rw [decide_eq_true a]
    simp only [if_true]
    exact congrArg some (decide_eq_decide.2 (by omega))
  · simp only [a, decide_false, Bool.false_eq_true, if_false]
    congr 1
    exact (decide_eq_false (fun h => a ⟨h.1, by omega⟩)).symm
theorem part_q {L n d : Int} (hL : 1 ≤ L) (hn : 1 ≤ n) (hd : n < d) : 1 ≤ (L * n + d - 1) / d ∧ (L * n + d - 1) / d ≤ L := by
  have h1 : 0 < L * n := Int.mul_pos (by omega) (by omega)
  have h2 : L * n ≤ L * d := Int.mul_le_mul_of_nonneg_left (by omega) (by omega)
  have h3 : (L + 1) * d = L * d + d := by rw [Int.add_mul, Int.one_mul]
  refine ⟨Int.le_ediv_of_mul_le (by omega) (by omega), ?_⟩
  have := Int.ediv_lt_of_lt_mul (a := L * n + d - 1) (b := L + 1) (c := d) (by omega) (by omega)
  omega
theorem part_bd {L n : Int} (hL : 0 ≤ L ∧ L ≤ 2000) (hn : 0 ≤ n ∧ n ≤ 200) : 0 ≤ L * n ∧ L * n ≤ 400000 := by
  refine ⟨Int.mul_nonneg hL.1 hn.1, ?_⟩
  have := Int.mul_le_mul hL.2 hn.2 hn.1 (by omega)
  omega

theorem laws_eqIntS_ev (a b : List Int) (hl : a.length ≤ 4611686018427387903) : Ev (fun k => laws_eqIntS.f k a b) (decide (a = b)) := by
  by_cases hlen : a.length = b.length
  · have key : ∀ (d i : Nat), i + d = a.length → Ev (fun k => laws_eqIntS.l0 k a b (i : Int)) (decide (a.drop i = b.drop i)) := by
      intro d
      induction d with
      | zero =>
        intro i h
        rw [List.drop_eq_nil_of_le (by omega), List.drop_eq_nil_of_le (by omega)]
        refine ev_succ ?_
        simp only [laws_eqIntS.l0]
        refine ev_else (by omega) ?_
        exact ev_ret (by simp)
      | succ d ih =>
        intro i h
        have h1 : i < a.length := by omega
        have h2 : i < b.length := by omega
        rw [List.drop_eq_getElem_cons h1, List.drop_eq_getElem_cons h2]
        refine Ev.step (f := fun k => if a[i] = b[i] then laws_eqIntS.l0 k a b ((i + 1 : Nat) : Int) else some false) (fun k => by simp only [laws_eqIntS.l0]; rw [if_pos (by omega), if_pos (by omega), if_pos (by omega), rd_nat a i h1, rd_nat b i h2, w64s (by omega)]) ?_
        by_cases c : a[i] = b[i]
        · simp only [c, if_true, List.cons.injEq, true_and]
          exact ih (i + 1) (by omega)
        · simp only [c, if_false, List.cons.injEq, false_and, decide_false]
          exact Ev.now _
    refine ev_eq (f := fun k => laws_eqIntS.l0 k a b ((0 : Nat) : Int)) ?_ (key a.length 0 (by omega))
    funext k
    simp only [laws_eqIntS.f]
    rw [if_pos (by omega)]
    rfl
  · refine ev_eq (f := fun _ => some false) ?_ (ev_ret (by simp; intro h; exact hlen (by rw [h])))
    funext k
    simp only [laws_eqIntS.f]
    rw [if_neg (by omega)]

theorem set_app {α : Type} (a b : List α) (x y : α) (n : Nat) (h : n = a.length) : (a ++ x :: b).set n y = a ++ y :: b := by
  subst h
  simp

def marked (m : Int) (n : Nat) : List Int := (List.range n).map fun (j : Nat) => m + (j : Int)
theorem marked_succ (m : Int) (n : Nat) : marked m (n + 1) = marked m n ++ [m + (n : Int)] := by
  unfold marked
  rw [List.range_succ]
  simp
theorem marked_len (m : Int) (n : Nat) : (marked m n).length = n := by simp [marked]
theorem laws_markIntS_ev (l : List Int) (hl : l.length ≤ 1048576) : Ev (fun k => laws_markIntS.f k l 1) (1 + (l.length : Int), marked 1 l.length) := by
  have key : ∀ (d i : Nat), i + d = l.length → Ev (fun k => laws_markIntS.l0 k (marked 1 i ++ l.drop i) (1 + (i : Int)) (i : Int)) (1 + (l.length : Int), marked 1 l.length) := by
    intro d
    induction d with
    | zero =>
      intro i h
      obtain rfl : i = l.length := by omega
      refine ev_succ ?_
      simp only [laws_markIntS.l0]
      refine ev_else (by simp [marked_len]) ?_
      refine ev_ret ?_
      simp
    | succ d ih =>
      intro i h
      have h1 : i < l.length := by omega
      refine Ev.step (f := fun k => laws_markIntS.l0 k (marked 1 (i + 1) ++ l.drop (i + 1)) (1 + ((i + 1 : Nat) : Int)) ((i + 1 : Nat) : Int)) (fun k => ?_) (ih (i + 1) (by omega))
      simp only [laws_markIntS.l0]
      rw [if_pos (by simp [marked_len]; omega), if_pos (by omega), w64s (by omega), Int.toNat_natCast, List.drop_eq_getElem_cons h1, set_app _ _ _ _ _ (by simp [marked_len]), w64 (by omega) (by omega), marked_succ]
      simp only [List.append_assoc, List.singleton_append, Int.natCast_succ, Int.add_assoc]
  refine ev_eq (f := fun k => laws_markIntS.l0 k (marked 1 0 ++ l.drop 0) (1 + ((0 : Nat) : Int)) ((0 : Nat) : Int)) ?_ (key l.length 0 (by omega))
  funext k
  simp only [laws_markIntS.f]
  simp [marked]
theorem laws_heldIntS_ev (n : Nat) (hl : n ≤ 1048576) : Ev (fun k => laws_heldIntS.f k (marked 1 n) 1) (1 + (n : Int)) := by
  have key : ∀ (d i : Nat), i + d = n → Ev (fun k => laws_heldIntS.l0 k (marked 1 n) (1 + (i : Int)) (i : Int)) (1 + (n : Int)) := by
    intro d
    induction d with
    | zero =>
      intro i h
      obtain rfl : i = n := by omega
      refine ev_succ ?_
      simp only [laws_heldIntS.l0]
      refine ev_else (by simp [marked_len]) ?_
      exact ev_ret rfl
    | succ d ih =>
      intro i h
      refine Ev.step (f := fun k => laws_heldIntS.l0 k (marked 1 n) (1 + ((i + 1 : Nat) : Int)) ((i + 1 : Nat) : Int)) (fun k => ?_) (ih (i + 1) (by omega))
      simp only [laws_heldIntS.l0]
      rw [if_pos (by simp [marked_len]; omega), if_pos (by omega), rd_nat _ i (by simp [marked_len]; omega), if_pos (by simp [marked]), w64s (by omega), w64 (by omega) (by omega)]
      simp only [Int.natCast_succ, Int.add_assoc]
  refine ev_eq (f := fun k => laws_heldIntS.l0 k (marked 1 n) (1 + ((0 : Nat) : Int)) ((0 : Nat) : Int)) ?_ (key n 0 (by omega))
  funext k
  simp only [laws_heldIntS.f]
  simp

theorem walk (n d : Int) (h : 1 ≤ n ∧ n < d ∧ d ≤ 200) : ∀ (t : Nat) (L : Int) (out : List Int), 0 ≤ L → L ≤ t → t ≤ 2000 → out.length + t ≤ 10000 →
    ∃ r : List Int, Ev (fun k => spec_rdParts.l0 k L n d out) r ∧ Ev (fun k => impl_PartPlan.l0 k n d out L) (r, true) ∧ r.length ≤ out.length + t := by
  intro t
  induction t with
  | zero =>
    intro L out h0 h1 h2 ho
    refine ⟨out, ev_succ ?_, ev_succ ?_, by omega⟩
    · simp only [spec_rdParts.l0]
      refine ev_else (by omega) ?_
      exact Ev.now _
    · simp only [impl_PartPlan.l0]
      refine ev_else (by omega) ?_
      exact Ev.now _
  | succ t ih =>
    intro L out h0 h1 h2 ho
    by_cases c : L > 0
    · have hq := part_q (L := L) (n := n) (d := d) (by omega) h.1 h.2.1
      have hb := part_bd (L := L) (n := n) (by omega) (by omega)
      have hd : Int.tdiv (L * n + d - 1) d = (L * n + d - 1) / d := Int.tdiv_eq_ediv_of_nonneg (by omega)
      have e1 : wrap64 (Int.tdiv (wrap64 ((wrap64 ((wrap64 (L * n)) + d)) - 1)) d) = (L * n + d - 1) / d := by
        rw [w64 (x := L * n) (by omega) (by omega), w64 (x := L * n + d) (by omega) (by omega), w64 (x := L * n + d - 1) (by omega) (by omega), hd, w64 (by omega) (by omega)]
      obtain ⟨r, a1, a2, a3⟩ := ih (L - (L * n + d - 1) / d) (out ++ [(L * n + d - 1) / d]) (by omega) (by omega) (by omega) (by rw [List.length_append]; simp only [List.length_cons, List.length_nil]; omega)
      rw [List.length_append] at a3
      simp only [List.length_cons, List.length_nil] at a3
      refine ⟨r, ev_succ ?_, ev_succ ?_, by omega⟩
      · simp only [spec_rdParts.l0]
        refine ev_if c ?_
        refine ev_else (by omega) ?_
        refine ev_if (by omega) ?_
        rw [e1, w64 (x := L - (L * n + d - 1) / d) (by omega) (by omega)]
        exact a1
      · simp only [impl_PartPlan.l0]
        refine ev_if c ?_
        refine ev_else (by omega) ?_
        refine ev_if (by omega) ?_
        rw [e1, w64 (x := L - (L * n + d - 1) / d) (by omega) (by omega)]
        exact a2
    · refine ⟨out, ev_succ ?_, ev_succ ?_, by omega⟩
      · simp only [spec_rdParts.l0]
        refine ev_else c ?_
        exact Ev.now _
      · simp only [impl_PartPlan.l0]
        refine ev_else c ?_
        exact Ev.now _
theorem same (p n d : Int) (wp : (Lit.int .i64 p).wf = true) (wn : (Lit.int .i64 n).wf = true) (wd : (Lit.int .i64 d).wf = true) : ∃ r, Ev (fun k => spec_PartPlan.f k p n d) r ∧ Ev (fun k => impl_PartPlan.f k p n d) r ∧ r.1.length ≤ 1048576 := by
  simp only [spec_PartPlan.f, impl_PartPlan.f]
  have no : Ev (fun k => impl_PartPlan.j0 k p n d true) ([], false) := by
    refine ev_succ ?_
    simp only [impl_PartPlan.j0, if_true]
    exact Ev.now _
  by_cases a : 1 ≤ p ∧ p ≤ 2000
  · by_cases b : partOk n d = true
    · have hb := b
      simp only [partOk, decide_eq_true_eq] at hb
      obtain ⟨r, a1, a2, a3⟩ := walk n d hb p.toNat p [] (by omega) (by omega) (by omega) (by simp; omega)
      rw [List.length_nil] at a3
      refine ⟨(r, true), ev_some (spec_bpBook_eq p) ?_, ev_some (impl_isBook_eq p) ?_, by simp only; omega⟩
      · simp only [a, and_self, decide_true, if_true]
        refine ev_some (spec_rdPart_eq n d) ?_
        simp only [b, if_true]
        exact ev_map a1 rfl
      · simp only [a, and_self, decide_true, if_true]
        refine ev_some (impl_isPart_eq n d) ?_
        simp only [b, Bool.not_true]
        refine ev_succ ?_
        simp only [impl_PartPlan.j0, Bool.false_eq_true, if_false]
        exact a2
    · refine ⟨([], false), ev_some (spec_bpBook_eq p) ?_, ev_some (impl_isBook_eq p) ?_, by simp⟩
      · simp only [a, and_self, decide_true, if_true]
        refine ev_some (spec_rdPart_eq n d) ?_
        simp only [b, Bool.false_eq_true, if_false]
        exact Ev.now _
      · simp only [a, and_self, decide_true, if_true]
        refine ev_some (impl_isPart_eq n d) ?_
        simp only [b, Bool.not_false]
        exact no
  · refine ⟨([], false), ev_some (spec_bpBook_eq p) ?_, ev_some (impl_isBook_eq p) ?_, by simp⟩
    · simp only [a, decide_false, Bool.false_eq_true, if_false]
      exact Ev.now _
    · simp only [a, decide_false, Bool.false_eq_true, if_false]
      exact no
theorem FnExactPartPlan : laws_FnExactPartPlan.Pure := by
  intro p n d wp wn wd
  refine Ev.rounds (r := true) ?_
  obtain ⟨r, h1, h2, hr⟩ := same p n d wp wn wd
  simp only [laws_FnExactPartPlan.f]
  repeat (first
    | exact Ev.now _
    | (dsimp only)
    | (with_reducible refine Ev.bind h1 ?_)
    | (with_reducible refine Ev.bind h2 ?_)
    | (with_reducible refine Ev.bind (laws_eqIntS_ev _ _ (by omega)) ?_)
    | (with_reducible refine Ev.bind (laws_markIntS_ev _ (by omega)) ?_)
    | (with_reducible refine Ev.bind (laws_heldIntS_ev _ (by omega)) ?_)
    | (simp only [decide_true, if_true, bne_self_eq_false, Bool.false_eq_true, if_false, neg_no])
    | (refine ev_succ ?_; simp only [laws_FnExactPartPlan.j0, laws_FnExactPartPlan.j1]))

end Go.Proofs.Ytdnknmodffigdaa.Pure
