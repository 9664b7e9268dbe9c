/- The plain law behind FnExactCountFewestBlanks, in lists and numbers alone: the program's and the reference's number of orders with the fewest blank pages are one. No condition beyond the printed bounds. -/
import Derived.Test.YtmckakhdipjneaaPFnExactCountFewestBlanksx2
set_option linter.unusedVariables false
set_option linter.unusedSimpArgs false
namespace Go.Proofs.Ytmckakhdipjneaa.Pure
open Go.RowKit Go.Proofs.Ytmckakhdipjneaa.PFnExactCountFewestBlanks Go.Proofs.YtmckakhdipjneaaW.PrintWords Go.Proofs.YtmckakhdipjneaaW.PrintLast Go.Proofs.YtmckakhdipjneaaW.PrintMore
/-! ### Small words: rounds, reads, sums without a wrap. -/
theorem ev_some {α β : Type} {g : Option α} {f : Nat → α → Option β} {a : α} {r : β} (h : g = some a) (k : Ev (fun n => f n a) r) : Ev (fun n => g.bind (f n)) r := by
  subst h
  exact k
theorem ev_ret {α : Type} {r s : α} (h : r = s) : Ev (fun _ => some r) s := by
  subst h
  exact Ev.now r
theorem ev_map {α β : Type} {g : Nat → Option α} {f : α → β} {a : α} {r : β} (h : Ev g a) (e : f a = r) : Ev (fun n => (g n).bind fun t => some (f t)) r := Ev.bind h (ev_ret e)
theorem ev_eq {α : Type} {g f : Nat → Option α} {r : α} (h : g = f) (k : Ev f r) : Ev g r := by
  rw [h]
  exact k
theorem w64 {x : Int} (h0 : -9223372036854775808 ≤ x) (h1 : x ≤ 9223372036854775807) : wrap64 x = x := by
  unfold wrap64
  omega
theorem w64s {i : Nat} (h : i < 4611686018427387904) : wrap64 ((i : Int) + 1) = ((i + 1 : Nat) : Int) := by
  rw [w64 (by omega) (by omega)]
  rfl
theorem rd_nat (l : List Int) (i : Nat) (h : i < l.length) : rd l (i : Int) = l[i] := by
  unfold rd
  rw [Int.toNat_natCast, List.getD_eq_getElem?_getD, List.getElem?_eq_getElem h]
  rfl
theorem wf_i64 {x : Int} (h : (Lit.int .i64 x).wf = true) : -9223372036854775808 ≤ x ∧ x ≤ 9223372036854775807 := by
  simp only [Lit.wf, Bool.and_eq_true, decide_eq_true_eq] at h
  exact h
theorem ev_succ {α : Type} {g : Nat → Option α} {r : α} (h : Ev (fun k => g (k + 1)) r) : Ev g r := Ev.step (fun _ => rfl) h
theorem neg_no (n : Nat) : ¬ (1 + (n : Int) < 0) := by omega
theorem ev_if {α : Type} {c : Prop} [Decidable c] {g f : Nat → Option α} {r : α} (h : c) (k : Ev g r) : Ev (fun n => if c then g n else f n) r := Ev.congr (fun _ => if_pos h) k
theorem ev_else {α : Type} {c : Prop} [Decidable c] {g f : Nat → Option α} {r : α} (h : ¬ c) (k : Ev f r) : Ev (fun n => if c then g n else f n) r := Ev.congr (fun _ => if_neg h) k

theorem set_app {α : Type} (a b : List α) (x y : α) (n : Nat) (h : n = a.length) : (a ++ x :: b).set n y = a ++ y :: b := by
  subst h
  simp
theorem laws_toIntS_ev (l : List Int) (hl : l.length ≤ 1048576) : Ev (fun k => laws_toIntS.f k l) l := by
  have key : ∀ (d i : Nat), i + d = l.length → Ev (fun k => laws_toIntS.l0 k l (l.take i ++ List.replicate d 0) (i : Int)) l := by
    intro d
    induction d with
    | zero =>
      intro i h
      refine ev_succ ?_
      simp only [laws_toIntS.l0]
      refine ev_else (by omega) ?_
      refine ev_ret ?_
      rw [List.take_of_length_le (by omega)]
      simp
    | succ d ih =>
      intro i h
      have hi' : i < l.length := by omega
      refine Ev.step (f := fun k => laws_toIntS.l0 k l (l.take (i + 1) ++ List.replicate d 0) ((i + 1 : Nat) : Int)) (fun k => ?_) (ih (i + 1) (by omega))
      simp only [laws_toIntS.l0]
      rw [if_pos (by omega), if_pos (by omega), if_pos (by simp; omega), rd_nat l i hi', w64s (by omega), Int.toNat_natCast, List.replicate_succ, set_app _ _ _ _ _ (by simp; omega), List.take_succ_eq_append_getElem hi']
      simp only [List.append_assoc, List.cons_append, List.nil_append]
  refine ev_eq (f := fun k => laws_toIntS.l0 k l (l.take 0 ++ List.replicate l.length 0) ((0 : Nat) : Int)) ?_ (key l.length 0 (by omega))
  funext k
  simp only [laws_toIntS.f]
  rw [if_pos (by omega), if_pos (by omega)]
  simp

theorem laws_eqIntS_ev (a b : List Int) (hl : a.length ≤ 4611686018427387903) : Ev (fun k => laws_eqIntS.f k a b) (decide (a = b)) := by
  by_cases hlen : a.length = b.length
  · have key : ∀ (d i : Nat), i + d = a.length → Ev (fun k => laws_eqIntS.l0 k a b (i : Int)) (decide (a.drop i = b.drop i)) := by
      intro d
      induction d with
      | zero =>
        intro i h
        rw [List.drop_eq_nil_of_le (by omega), List.drop_eq_nil_of_le (by omega)]
        refine ev_succ ?_
        simp only [laws_eqIntS.l0]
        refine ev_else (by omega) ?_
        exact ev_ret (by simp)
      | succ d ih =>
        intro i h
        have h1 : i < a.length := by omega
        have h2 : i < b.length := by omega
        rw [List.drop_eq_getElem_cons h1, List.drop_eq_getElem_cons h2]
        refine Ev.step (f := fun k => if a[i] = b[i] then laws_eqIntS.l0 k a b ((i + 1 : Nat) : Int) else some false) (fun k => by simp only [laws_eqIntS.l0]; rw [if_pos (by omega), if_pos (by omega), if_pos (by omega), rd_nat a i h1, rd_nat b i h2, w64s (by omega)]) ?_
        by_cases c : a[i] = b[i]
        · simp only [c, if_true, List.cons.injEq, true_and]
          exact ih (i + 1) (by omega)
        · simp only [c, if_false, List.cons.injEq, false_and, decide_false]
          exact Ev.now _
    refine ev_eq (f := fun k => laws_eqIntS.l0 k a b ((0 : Nat) : Int)) ?_ (key a.length 0 (by omega))
    funext k
    simp only [laws_eqIntS.f]
    rw [if_pos (by omega)]
    rfl
  · refine ev_eq (f := fun _ => some false) ?_ (ev_ret (by simp; intro h; exact hlen (by rw [h])))
    funext k
    simp only [laws_eqIntS.f]
    rw [if_neg (by omega)]

theorem spec_l1In_eq (x lo hi : Int) : spec_l1In.f x lo hi = some (decide (lo ≤ x ∧ x ≤ hi)) := by
  unfold spec_l1In.f
  by_cases c : x ≥ lo
  · rw [if_pos c]
    congr 1
    simp only [c, true_and]
  · rw [if_neg c]
    congr 1
    exact (decide_eq_false (fun h => c h.1)).symm

theorem spec_l1All_ev (lo hi : Int) (l : List Int) (hl : l.length ≤ 4611686018427387903) : Ev (fun k => spec_l1All.f k l lo hi) (l.all fun x => decide (lo ≤ x ∧ x ≤ hi)) := by
  have key : ∀ (d i : Nat), i + d = l.length → Ev (fun k => spec_l1All.l0 k lo hi l (l.length : Int) (i : Int)) ((l.drop i).all fun x => decide (lo ≤ x ∧ x ≤ hi)) := by
    intro d
    induction d with
    | zero =>
      intro i h
      rw [List.drop_eq_nil_of_le (by omega)]
      exact Ev.step (f := fun _ => some true) (fun k => by simp only [spec_l1All.l0]; rw [if_neg (by omega)]) (Ev.now _)
    | succ d ih =>
      intro i h
      have hi' : i < l.length := by omega
      rw [List.drop_eq_getElem_cons hi', List.all_cons]
      refine Ev.step (f := fun k => (spec_l1In.f l[i] lo hi).bind fun t => if t = true then spec_l1All.l0 k lo hi l (l.length : Int) ((i + 1 : Nat) : Int) else some false) (fun k => by simp only [spec_l1All.l0]; rw [if_pos (by omega), if_pos (by omega), if_pos (by omega), rd_nat l i hi', w64s (by omega)]) ?_
      refine ev_some (spec_l1In_eq _ _ _) ?_
      by_cases c : lo ≤ l[i] ∧ l[i] ≤ hi
      · simp only [c, and_self, decide_true, if_true, Bool.true_and]
        exact ih (i + 1) (by omega)
      · simp only [c, decide_false, Bool.false_and, Bool.false_eq_true, if_false]
        exact Ev.now _
  exact key l.length 0 (by omega)

theorem impl_within_eq (x lo hi : Int) : impl_within.f x lo hi = some (decide (lo ≤ x ∧ x ≤ hi)) := by
  unfold impl_within.f
  by_cases c : x ≥ lo
  · rw [if_pos c]
    congr 1
    simp only [c, true_and]
  · rw [if_neg c]
    congr 1
    exact (decide_eq_false (fun h => c h.1)).symm

theorem impl_allWithin_ev (lo hi : Int) (l : List Int) (hl : l.length ≤ 4611686018427387903) : Ev (fun k => impl_allWithin.f k l lo hi) (l.all fun x => decide (lo ≤ x ∧ x ≤ hi)) := by
  have key : ∀ (d i : Nat), i + d = l.length → Ev (fun k => impl_allWithin.l0 k lo hi l (l.length : Int) (i : Int)) ((l.drop i).all fun x => decide (lo ≤ x ∧ x ≤ hi)) := by
    intro d
    induction d with
    | zero =>
      intro i h
      rw [List.drop_eq_nil_of_le (by omega)]
      exact Ev.step (f := fun _ => some true) (fun k => by simp only [impl_allWithin.l0]; rw [if_neg (by omega)]) (Ev.now _)
    | succ d ih =>
      intro i h
      have hi' : i < l.length := by omega
      rw [List.drop_eq_getElem_cons hi', List.all_cons]
      refine Ev.step (f := fun k => (impl_within.f l[i] lo hi).bind fun t => if t = true then impl_allWithin.l0 k lo hi l (l.length : Int) ((i + 1 : Nat) : Int) else some false) (fun k => by simp only [impl_allWithin.l0]; rw [if_pos (by omega), if_pos (by omega), if_pos (by omega), rd_nat l i hi', w64s (by omega)]) ?_
      refine ev_some (impl_within_eq _ _ _) ?_
      by_cases c : lo ≤ l[i] ∧ l[i] ≤ hi
      · simp only [c, and_self, decide_true, if_true, Bool.true_and]
        exact ih (i + 1) (by omega)
      · simp only [c, decide_false, Bool.false_and, Bool.false_eq_true, if_false]
        exact Ev.now _
  exact key l.length 0 (by omega)

def caOk (l : List Int) : Bool := decide (1 ≤ (l.length : Int) ∧ (l.length : Int) ≤ 12) && l.all fun x => decide (1 ≤ x ∧ x ≤ 120)
theorem caOk_len {l : List Int} (h : caOk l = true) : 1 ≤ l.length ∧ l.length ≤ 12 := by
  simp only [caOk, Bool.and_eq_true, decide_eq_true_eq] at h
  omega
theorem caOk_all {l : List Int} (h : caOk l = true) : ∀ x ∈ l, 1 ≤ x ∧ x ≤ 120 := by
  simp only [caOk, Bool.and_eq_true, List.all_eq_true, decide_eq_true_eq] at h
  exact h.2
theorem spec_caGood_ev (l : List Int) (hl : l.length ≤ 1048576) : Ev (fun k => spec_caGood.f k l) (caOk l) := by
  simp only [spec_caGood.f]
  refine ev_some (spec_l1In_eq _ _ _) ?_
  unfold caOk
  by_cases c : 1 ≤ (l.length : Int) ∧ (l.length : Int) ≤ 12
  · simp only [c, and_self, decide_true, if_true, Bool.true_and]
    exact ev_map (spec_l1All_ev 1 120 l (by omega)) rfl
  · simp only [c, decide_false, Bool.false_and, Bool.false_eq_true, if_false]
    exact Ev.now _
theorem impl_AreChapters_ev (l : List Int) (hl : l.length ≤ 1048576) : Ev (fun k => impl_AreChapters.f k l) (caOk l) := by
  simp only [impl_AreChapters.f]
  refine ev_some (impl_within_eq _ _ _) ?_
  unfold caOk
  by_cases c : 1 ≤ (l.length : Int) ∧ (l.length : Int) ≤ 12
  · simp only [c, and_self, decide_true, if_true, Bool.true_and]
    exact ev_map (impl_allWithin_ev 1 120 l (by omega)) rfl
  · simp only [c, decide_false, Bool.false_and, Bool.false_eq_true, if_false]
    exact Ev.now _

theorem tmod2 {x : Int} (h : 0 ≤ x) : Int.tmod x 2 = x % 2 := Int.tmod_eq_emod_of_nonneg h

def oddN (l : List Int) : Nat := l.countP fun x => decide (x % 2 = 1)
theorem oddN_le (l : List Int) : oddN l ≤ l.length := List.countP_le_length
theorem oddN_cons (x : Int) (l : List Int) : oddN (x :: l) = oddN l + if x % 2 = 1 then 1 else 0 := by
  unfold oddN
  rw [List.countP_cons]
  simp only [decide_eq_true_eq]
theorem spec_caOdd_ev (l : List Int) (hl : l.length ≤ 1048576) (hp : ∀ x ∈ l, 1 ≤ x ∧ x ≤ 120) : Ev (fun k => spec_caOdd.f k l) ((oddN l : Nat) : Int) := by
  have key : ∀ (d i : Nat) (s : Nat), i + d = l.length → s ≤ i → Ev (fun k => spec_caOdd.l0 k (s : Int) l (l.length : Int) (i : Int)) ((s + oddN (l.drop i) : Nat) : Int) := by
    intro d
    induction d with
    | zero =>
      intro i s h hs
      rw [List.drop_eq_nil_of_le (by omega)]
      refine ev_succ ?_
      simp only [spec_caOdd.l0]
      refine ev_else (by omega) ?_
      exact ev_ret rfl
    | succ d ih =>
      intro i s h hs
      have h1 : i < l.length := by omega
      have hx := hp l[i] (List.getElem_mem h1)
      rw [List.drop_eq_getElem_cons h1]
      by_cases c : l[i] % 2 = 1
      · refine Ev.step (f := fun k => spec_caOdd.l0 k ((s + 1 : Nat) : Int) l (l.length : Int) ((i + 1 : Nat) : Int)) (fun k => ?_) ?_
        · simp only [spec_caOdd.l0]
          rw [if_pos (by omega), if_pos (by omega), if_pos (by omega), rd_nat l i h1, tmod2 (by omega), c, w64s (by omega), w64s (by omega)]
        · have := ih (i + 1) (s + 1) (by omega) (by omega)
          have e : oddN (l[i] :: l.drop (i + 1)) = oddN (l.drop (i + 1)) + 1 := by rw [oddN_cons, if_pos c]
          rw [e]
          rw [show s + (oddN (l.drop (i + 1)) + 1) = s + 1 + oddN (l.drop (i + 1)) by omega]
          exact this
      · refine Ev.step (f := fun k => spec_caOdd.l0 k (s : Int) l (l.length : Int) ((i + 1 : Nat) : Int)) (fun k => ?_) ?_
        · simp only [spec_caOdd.l0]
          rw [if_pos (by omega), if_pos (by omega), if_pos (by omega), rd_nat l i h1, tmod2 (by omega), show l[i] % 2 = 0 by omega, w64s (by omega), Int.add_zero, w64 (by omega) (by omega)]
        · have e : oddN (l[i] :: l.drop (i + 1)) = oddN (l.drop (i + 1)) := by rw [oddN_cons, if_neg c]; rfl
          rw [e]
          exact ih (i + 1) s (by omega) (by omega)
  refine ev_eq ?_ ((by simpa using key l.length 0 0 (by omega) (by omega) : Ev (fun k => spec_caOdd.l0 k 0 l (l.length : Int) 0) ((oddN l : Nat) : Int)))
  funext k
  rfl

theorem impl_odds_ev (l : List Int) (hl : l.length ≤ 1048576) (hp : ∀ x ∈ l, 1 ≤ x ∧ x ≤ 120) : ∃ r : List Int, Ev (fun k => impl_odds.f k l) r ∧ r.length = oddN l := by
  have key : ∀ (d i : Nat) (s : List Int), i + d = l.length → s.length ≤ i → ∃ r : List Int, Ev (fun k => impl_odds.l0 k s l (l.length : Int) (i : Int)) r ∧ r.length = s.length + oddN (l.drop i) := by
    intro d
    induction d with
    | zero =>
      intro i s h hs
      rw [List.drop_eq_nil_of_le (by omega)]
      exact ⟨s, Ev.step (f := fun _ => some s) (fun k => by simp only [impl_odds.l0]; rw [if_neg (by omega)]) (Ev.now _), rfl⟩
    | succ d ih =>
      intro i s h hs
      have h1 : i < l.length := by omega
      have hx := hp l[i] (List.getElem_mem h1)
      rw [List.drop_eq_getElem_cons h1]
      by_cases c : l[i] % 2 = 1
      · obtain ⟨r, hr, e⟩ := ih (i + 1) (s ++ [(i : Int)]) (by omega) (by simp; omega)
        refine ⟨r, Ev.step (f := fun k => impl_odds.l0 k (s ++ [(i : Int)]) l (l.length : Int) ((i + 1 : Nat) : Int)) (fun k => ?_) hr, ?_⟩
        · simp only [impl_odds.l0]
          rw [if_pos (by omega), if_pos (by omega), if_pos (by omega), rd_nat l i h1, tmod2 (by omega), if_pos c, if_pos (by omega), w64s (by omega)]
        · rw [e, oddN_cons, if_pos c, List.length_append]
          simp only [List.length_cons, List.length_nil]
          omega
      · obtain ⟨r, hr, e⟩ := ih (i + 1) s (by omega) (by omega)
        refine ⟨r, Ev.step (f := fun k => impl_odds.l0 k s l (l.length : Int) ((i + 1 : Nat) : Int)) (fun k => ?_) hr, ?_⟩
        · simp only [impl_odds.l0]
          rw [if_pos (by omega), if_pos (by omega), if_pos (by omega), rd_nat l i h1, tmod2 (by omega), if_neg c, w64s (by omega)]
        · rw [e, oddN_cons, if_neg c]
          rfl
  obtain ⟨r, hr, e⟩ := key l.length 0 [] (by omega) (by simp)
  refine ⟨r, hr, ?_⟩
  simpa using e

/-- (n - 1)! in the order in which both multiply: p times i, i + 1, .. below n. -/
def prod : Nat → Nat → Int → Int
  | 0, _, p => p
  | d + 1, i, p => prod d (i + 1) (p * (i : Int))
theorem prod_mul : ∀ (d i : Nat) (p q : Int), prod d i (p * q) = prod d i p * q
  | 0, _, _, _ => rfl
  | d + 1, i, p, q => by
    simp only [prod]
    rw [← prod_mul d (i + 1) (p * (i : Int)) q]
    congr 1
    rw [Int.mul_assoc, Int.mul_comm q, ← Int.mul_assoc]
theorem pow12 {d : Nat} (h : d ≤ 12) : (12 : Int) ^ d ≤ 8916100448256 := by
  have : ∀ d : Fin 13, (12 : Int) ^ d.1 ≤ 8916100448256 := by decide +kernel
  exact this ⟨d, by omega⟩
theorem grow {p : Int} {i : Nat} (hi : 2 ≤ i ∧ i ≤ 11) (hp : 0 ≤ p ∧ p ≤ (12 : Int) ^ (i - 1)) : 0 ≤ p * (i : Int) ∧ p * (i : Int) ≤ (12 : Int) ^ (i + 1 - 1) ∧ p * (i : Int) ≤ 8916100448256 := by
  have h1 : 0 ≤ p * (i : Int) := Int.mul_nonneg hp.1 (by omega)
  have h2 : p * (i : Int) ≤ (12 : Int) ^ (i - 1) * 12 := Int.mul_le_mul hp.2 (by omega) (by omega) (by exact Int.le_trans hp.1 hp.2)
  rw [← Int.pow_succ, show (i - 1).succ = i by omega] at h2
  rw [show i + 1 - 1 = i by omega]
  exact ⟨h1, h2, Int.le_trans h2 (pow12 (by omega))⟩
theorem spec_loop (l : List Int) (hn : 1 ≤ l.length ∧ l.length ≤ 12) : ∀ (d i : Nat) (p : Int), d = l.length - i → 2 ≤ i → i ≤ 12 → 0 ≤ p ∧ p ≤ (12 : Int) ^ (i - 1) → Ev (fun k => spec_CountFewestBlanks.l0 k l p (i : Int)) (prod d i p, true) := by
  intro d
  induction d with
  | zero =>
    intro i p h h2 h12 hp
    refine ev_succ ?_
    simp only [spec_CountFewestBlanks.l0]
    refine ev_else (by omega) ?_
    exact ev_ret rfl
  | succ d ih =>
    intro i p h h2 h12 hp
    have g := grow (i := i) ⟨h2, by omega⟩ hp
    refine Ev.step (f := fun k => spec_CountFewestBlanks.l0 k l (p * (i : Int)) ((i + 1 : Nat) : Int)) (fun k => ?_) (ih (i + 1) _ (by omega) (by omega) (by omega) ⟨g.1, g.2.1⟩)
    simp only [spec_CountFewestBlanks.l0]
    rw [if_pos (by omega), w64s (by omega), w64 (by omega) (by omega)]
theorem impl_loop (l : List Int) (n : Int) (h0 : 0 ≤ n ∧ n ≤ 12) (hn : 1 ≤ l.length ∧ l.length ≤ 12) : ∀ (d i : Nat) (p : Int), d = l.length - i → 2 ≤ i → i ≤ 12 → 0 ≤ p ∧ p ≤ (12 : Int) ^ (i - 1) → Ev (fun k => impl_CountFewestBlanks.l0 k l n p (i : Int)) (prod d i p * n, true) := by
  intro d
  induction d with
  | zero =>
    intro i p h h2 h12 hp
    have h3 : 0 ≤ p * n := Int.mul_nonneg hp.1 h0.1
    have h4 : p * n ≤ (12 : Int) ^ (i - 1) * 12 := Int.mul_le_mul hp.2 h0.2 h0.1 (by exact Int.le_trans hp.1 hp.2)
    have h5 := pow12 (d := i - 1) (by omega)
    refine ev_succ ?_
    simp only [impl_CountFewestBlanks.l0]
    refine ev_else (by omega) ?_
    rw [w64 (by omega) (by omega)]
    exact ev_ret rfl
  | succ d ih =>
    intro i p h h2 h12 hp
    have g := grow (i := i) ⟨h2, by omega⟩ hp
    refine Ev.step (f := fun k => impl_CountFewestBlanks.l0 k l n (p * (i : Int)) ((i + 1 : Nat) : Int)) (fun k => ?_) (ih (i + 1) _ (by omega) (by omega) (by omega) ⟨g.1, g.2.1⟩)
    simp only [impl_CountFewestBlanks.l0]
    rw [if_pos (by omega), w64s (by omega), w64 (by omega) (by omega)]
theorem both (l : List Int) (n : Int) (h0 : 0 ≤ n ∧ n ≤ 12) (hn : 1 ≤ l.length ∧ l.length ≤ 12) : Ev (fun k => spec_CountFewestBlanks.j0 k l n) (prod (l.length - 2) 2 1 * n, true) ∧ Ev (fun k => impl_CountFewestBlanks.j0 k l n 1) (prod (l.length - 2) 2 1 * n, true) := by
  have e : prod (l.length - 2) 2 1 * n = prod (l.length - 2) 2 n := by rw [← prod_mul, Int.one_mul]
  refine ⟨ev_succ ?_, ev_succ ?_⟩
  · simp only [spec_CountFewestBlanks.j0]
    rw [e]
    exact spec_loop l hn (l.length - 2) 2 n rfl (by omega) (by omega) (by simpa using h0)
  · simp only [impl_CountFewestBlanks.j0]
    exact impl_loop l n h0 hn (l.length - 2) 2 1 rfl (by omega) (by omega) (by simp)
theorem same (l : List Int) (hl : l.length ≤ 1048576) (hw : ∀ x ∈ l, (Lit.int .i64 x).wf = true) : ∃ r, Ev (fun k => spec_CountFewestBlanks.f k l) r ∧ Ev (fun k => impl_CountFewestBlanks.f k l) r := by
  simp only [spec_CountFewestBlanks.f, impl_CountFewestBlanks.f]
  by_cases c : caOk l = true
  · have hn := caOk_len c
    obtain ⟨q, hq, e⟩ := impl_odds_ev l hl (caOk_all c)
    have hle := oddN_le l
    by_cases z : oddN l = 0
    · have b := both l (l.length : Int) (by omega) hn
      refine ⟨(prod (l.length - 2) 2 1 * (l.length : Int), true), Ev.bind (spec_caGood_ev l hl) ?_, Ev.bind (impl_AreChapters_ev l hl) ?_⟩
      · simp only [c, if_true]
        refine Ev.bind (spec_caOdd_ev l hl (caOk_all c)) ?_
        refine ev_if (by omega) ?_
        exact b.1
      · simp only [c, if_true]
        refine Ev.bind hq ?_
        refine ev_if (by omega) ?_
        exact b.2
    · have b := both l ((oddN l : Nat) : Int) (by omega) hn
      refine ⟨(prod (l.length - 2) 2 1 * ((oddN l : Nat) : Int), true), Ev.bind (spec_caGood_ev l hl) ?_, Ev.bind (impl_AreChapters_ev l hl) ?_⟩
      · simp only [c, if_true]
        refine Ev.bind (spec_caOdd_ev l hl (caOk_all c)) ?_
        refine ev_else (by omega) ?_
        exact b.1
      · simp only [c, if_true]
        refine Ev.bind hq ?_
        refine ev_else (by omega) ?_
        rw [e]
        exact b.2
  · refine ⟨(0, false), Ev.bind (spec_caGood_ev l hl) ?_, Ev.bind (impl_AreChapters_ev l hl) ?_⟩
    all_goals
      simp only [c, Bool.false_eq_true, if_false]
      exact Ev.now _
theorem FnExactCountFewestBlanks : laws_FnExactCountFewestBlanks.Pure := by
  intro l0  hm h8 hw 
  refine Ev.rounds (r := true) ?_
  by_cases hl : (l0.length : Int) > 1048576
  · simp only [laws_FnExactCountFewestBlanks.f, if_pos hl]
    exact Ev.now _
  · have hl' : l0.length ≤ 1048576 := by omega
    obtain ⟨r, h1, h2⟩ := same l0  hl' hw 
    simp only [laws_FnExactCountFewestBlanks.f, if_neg hl]
    repeat (first
      | exact Ev.now _
      | (with_reducible refine Ev.bind h1 ?_)
      | (with_reducible refine Ev.bind h2 ?_)
      | (with_reducible refine Ev.bind (laws_toIntS_ev _ (by omega)) ?_)
      | (with_reducible refine Ev.bind (laws_eqIntS_ev _ _ (by omega)) ?_)
      | (simp only [decide_true, if_true, bne_self_eq_false, Bool.false_eq_true, if_false, neg_no])
      | (refine ev_succ ?_; simp only [laws_FnExactCountFewestBlanks.j0]))

end Go.Proofs.Ytmckakhdipjneaa.Pure
