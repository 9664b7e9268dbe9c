/- The plain law behind FnExactChapterOfPage, in lists and numbers alone: the program's and the reference's chapter of a page are one. No condition beyond the printed bounds. -/
import Derived.Test.YtmckakhdipjneaaXFnExactChapterOfPagex3
set_option linter.unusedVariables false
set_option linter.unusedSimpArgs false
namespace Go.Proofs.Ytmckakhdipjneaa.Pure
open Go.RowKit Go.Proofs.Ytmckakhdipjneaa.XFnExactChapterOfPage Go.Proofs.YtmckakhdipjneaaW.PrintWords Go.Proofs.YtmckakhdipjneaaW.PrintLast Go.Proofs.YtmckakhdipjneaaW.PrintMore
/-! ### Small words: rounds, reads, sums without a wrap. -/
theorem ev_some {α β : Type} {g : Option α} {f : Nat → α → Option β} {a : α} {r : β} (h : g = some a) (k : Ev (fun n => f n a) r) : Ev (fun n => g.bind (f n)) r := by
  subst h
  exact k
theorem ev_ret {α : Type} {r s : α} (h : r = s) : Ev (fun _ => some r) s := by
  subst h
  exact Ev.now r
theorem ev_map {α β : Type} {g : Nat → Option α} {f : α → β} {a : α} {r : β} (h : Ev g a) (e : f a = r) : Ev (fun n => (g n).bind fun t => some (f t)) r := Ev.bind h (ev_ret e)
theorem ev_eq {α : Type} {g f : Nat → Option α} {r : α} (h : g = f) (k : Ev f r) : Ev g r := by
  rw [h]
  exact k
theorem w64 {x : Int} (h0 : -9223372036854775808 ≤ x) (h1 : x ≤ 9223372036854775807) : wrap64 x = x := by
  unfold wrap64
  omega
theorem w64s {i : Nat} (h : i < 4611686018427387904) : wrap64 ((i : Int) + 1) = ((i + 1 : Nat) : Int) := by
  rw [w64 (by omega) (by omega)]
  rfl
theorem rd_nat (l : List Int) (i : Nat) (h : i < l.length) : rd l (i : Int) = l[i] := by
  unfold rd
  rw [Int.toNat_natCast, List.getD_eq_getElem?_getD, List.getElem?_eq_getElem h]
  rfl
theorem wf_i64 {x : Int} (h : (Lit.int .i64 x).wf = true) : -9223372036854775808 ≤ x ∧ x ≤ 9223372036854775807 := by
  simp only [Lit.wf, Bool.and_eq_true, decide_eq_true_eq] at h
  exact h
theorem ev_succ {α : Type} {g : Nat → Option α} {r : α} (h : Ev (fun k => g (k + 1)) r) : Ev g r := Ev.step (fun _ => rfl) h
theorem neg_no (n : Nat) : ¬ (1 + (n : Int) < 0) := by omega
theorem ev_if {α : Type} {c : Prop} [Decidable c] {g f : Nat → Option α} {r : α} (h : c) (k : Ev g r) : Ev (fun n => if c then g n else f n) r := Ev.congr (fun _ => if_pos h) k
theorem ev_else {α : Type} {c : Prop} [Decidable c] {g f : Nat → Option α} {r : α} (h : ¬ c) (k : Ev f r) : Ev (fun n => if c then g n else f n) r := Ev.congr (fun _ => if_neg h) k

theorem set_app {α : Type} (a b : List α) (x y : α) (n : Nat) (h : n = a.length) : (a ++ x :: b).set n y = a ++ y :: b := by
  subst h
  simp

theorem laws_toIntS_ev (l : List Int) (hl : l.length ≤ 1048576) : Ev (fun k => laws_toIntS.f k l) l := by
  have key : ∀ (d i : Nat), i + d = l.length → Ev (fun k => laws_toIntS.l0 k l (l.take i ++ List.replicate d 0) (i : Int)) l := by
    intro d
    induction d with
    | zero =>
      intro i h
      refine ev_succ ?_
      simp only [laws_toIntS.l0]
      refine ev_else (by omega) ?_
      refine ev_ret ?_
      rw [List.take_of_length_le (by omega)]
      simp
    | succ d ih =>
      intro i h
      have hi' : i < l.length := by omega
      refine Ev.step (f := fun k => laws_toIntS.l0 k l (l.take (i + 1) ++ List.replicate d 0) ((i + 1 : Nat) : Int)) (fun k => ?_) (ih (i + 1) (by omega))
      simp only [laws_toIntS.l0]
      rw [if_pos (by omega), if_pos (by omega), if_pos (by simp; omega), rd_nat l i hi', w64s (by omega), Int.toNat_natCast, List.replicate_succ, set_app _ _ _ _ _ (by simp; omega), List.take_succ_eq_append_getElem hi']
      simp only [List.append_assoc, List.cons_append, List.nil_append]
  refine ev_eq (f := fun k => laws_toIntS.l0 k l (l.take 0 ++ List.replicate l.length 0) ((0 : Nat) : Int)) ?_ (key l.length 0 (by omega))
  funext k
  simp only [laws_toIntS.f]
  rw [if_pos (by omega), if_pos (by omega)]
  simp

theorem laws_eqIntS_ev (a b : List Int) (hl : a.length ≤ 4611686018427387903) : Ev (fun k => laws_eqIntS.f k a b) (decide (a = b)) := by
  by_cases hlen : a.length = b.length
  · have key : ∀ (d i : Nat), i + d = a.length → Ev (fun k => laws_eqIntS.l0 k a b (i : Int)) (decide (a.drop i = b.drop i)) := by
      intro d
      induction d with
      | zero =>
        intro i h
        rw [List.drop_eq_nil_of_le (by omega), List.drop_eq_nil_of_le (by omega)]
        refine ev_succ ?_
        simp only [laws_eqIntS.l0]
        refine ev_else (by omega) ?_
        exact ev_ret (by simp)
      | succ d ih =>
        intro i h
        have h1 : i < a.length := by omega
        have h2 : i < b.length := by omega
        rw [List.drop_eq_getElem_cons h1, List.drop_eq_getElem_cons h2]
        refine Ev.step (f := fun k => if a[i] = b[i] then laws_eqIntS.l0 k a b ((i + 1 : Nat) : Int) else some false) (fun k => by simp only [laws_eqIntS.l0]; rw [if_pos (by omega), if_pos (by omega), if_pos (by omega), rd_nat a i h1, rd_nat b i h2, w64s (by omega)]) ?_
        by_cases c : a[i] = b[i]
        · simp only [c, if_true, List.cons.injEq, true_and]
          exact ih (i + 1) (by omega)
        · simp only [c, if_false, List.cons.injEq, false_and, decide_false]
          exact Ev.now _
    refine ev_eq (f := fun k => laws_eqIntS.l0 k a b ((0 : Nat) : Int)) ?_ (key a.length 0 (by omega))
    funext k
    simp only [laws_eqIntS.f]
    rw [if_pos (by omega)]
    rfl
  · refine ev_eq (f := fun _ => some false) ?_ (ev_ret (by simp; intro h; exact hlen (by rw [h])))
    funext k
    simp only [laws_eqIntS.f]
    rw [if_neg (by omega)]

theorem spec_l1In_eq (x lo hi : Int) : spec_l1In.f x lo hi = some (decide (lo ≤ x ∧ x ≤ hi)) := by
  unfold spec_l1In.f
  by_cases c : x ≥ lo
  · rw [if_pos c]
    congr 1
    simp only [c, true_and]
  · rw [if_neg c]
    congr 1
    exact (decide_eq_false (fun h => c h.1)).symm

theorem spec_l1All_ev (lo hi : Int) (l : List Int) (hl : l.length ≤ 4611686018427387903) : Ev (fun k => spec_l1All.f k l lo hi) (l.all fun x => decide (lo ≤ x ∧ x ≤ hi)) := by
  have key : ∀ (d i : Nat), i + d = l.length → Ev (fun k => spec_l1All.l0 k lo hi l (l.length : Int) (i : Int)) ((l.drop i).all fun x => decide (lo ≤ x ∧ x ≤ hi)) := by
    intro d
    induction d with
    | zero =>
      intro i h
      rw [List.drop_eq_nil_of_le (by omega)]
      exact Ev.step (f := fun _ => some true) (fun k => by simp only [spec_l1All.l0]; rw [if_neg (by omega)]) (Ev.now _)
    | succ d ih =>
      intro i h
      have hi' : i < l.length := by omega
      rw [List.drop_eq_getElem_cons hi', List.all_cons]
      refine Ev.step (f := fun k => (spec_l1In.f l[i] lo hi).bind fun t => if t = true then spec_l1All.l0 k lo hi l (l.length : Int) ((i + 1 : Nat) : Int) else some false) (fun k => by simp only [spec_l1All.l0]; rw [if_pos (by omega), if_pos (by omega), if_pos (by omega), rd_nat l i hi', w64s (by omega)]) ?_
      refine ev_some (spec_l1In_eq _ _ _) ?_
      by_cases c : lo ≤ l[i] ∧ l[i] ≤ hi
      · simp only [c, and_self, decide_true, if_true, Bool.true_and]
        exact ih (i + 1) (by omega)
      · simp only [c, decide_false, Bool.false_and, Bool.false_eq_true, if_false]
        exact Ev.now _
  exact key l.length 0 (by omega)

theorem impl_within_eq (x lo hi : Int) : impl_within.f x lo hi = some (decide (lo ≤ x ∧ x ≤ hi)) := by
  unfold impl_within.f
  by_cases c : x ≥ lo
  · rw [if_pos c]
    congr 1
    simp only [c, true_and]
  · rw [if_neg c]
    congr 1
    exact (decide_eq_false (fun h => c h.1)).symm

theorem impl_allWithin_ev (lo hi : Int) (l : List Int) (hl : l.length ≤ 4611686018427387903) : Ev (fun k => impl_allWithin.f k l lo hi) (l.all fun x => decide (lo ≤ x ∧ x ≤ hi)) := by
  have key : ∀ (d i : Nat), i + d = l.length → Ev (fun k => impl_allWithin.l0 k lo hi l (l.length : Int) (i : Int)) ((l.drop i).all fun x => decide (lo ≤ x ∧ x ≤ hi)) := by
    intro d
    induction d with
    | zero =>
      intro i h
      rw [List.drop_eq_nil_of_le (by omega)]
      exact Ev.step (f := fun _ => some true) (fun k => by simp only [impl_allWithin.l0]; rw [if_neg (by omega)]) (Ev.now _)
    | succ d ih =>
      intro i h
      have hi' : i < l.length := by omega
      rw [List.drop_eq_getElem_cons hi', List.all_cons]
      refine Ev.step (f := fun k => (impl_within.f l[i] lo hi).bind fun t => if t = true then impl_allWithin.l0 k lo hi l (l.length : Int) ((i + 1 : Nat) : Int) else some false) (fun k => by simp only [impl_allWithin.l0]; rw [if_pos (by omega), if_pos (by omega), if_pos (by omega), rd_nat l i hi', w64s (by omega)]) ?_
      refine ev_some (impl_within_eq _ _ _) ?_
      by_cases c : lo ≤ l[i] ∧ l[i] ≤ hi
      · simp only [c, and_self, decide_true, if_true, Bool.true_and]
        exact ih (i + 1) (by omega)
      · simp only [c, decide_false, Bool.false_and, Bool.false_eq_true, if_false]
        exact Ev.now _
  exact key l.length 0 (by omega)

def caOk (l : List Int) : Bool := decide (1 ≤ (l.length : Int) ∧ (l.length : Int) ≤ 12) && l.all fun x => decide (1 ≤ x ∧ x ≤ 120)
theorem caOk_len {l : List Int} (h : caOk l = true) : 1 ≤ l.length ∧ l.length ≤ 12 := by
  simp only [caOk, Bool.and_eq_true, decide_eq_true_eq] at h
  omega
theorem caOk_all {l : List Int} (h : caOk l = true) : ∀ x ∈ l, 1 ≤ x ∧ x ≤ 120 := by
  simp only [caOk, Bool.and_eq_true, List.all_eq_true, decide_eq_true_eq] at h
  exact h.2
theorem spec_caGood_ev (l : List Int) (hl : l.length ≤ 1048576) : Ev (fun k => spec_caGood.f k l) (caOk l) := by
  simp only [spec_caGood.f]
  refine ev_some (spec_l1In_eq _ _ _) ?_
  unfold caOk
  by_cases c : 1 ≤ (l.length : Int) ∧ (l.length : Int) ≤ 12
  · simp only [c, and_self, decide_true, if_true, Bool.true_and]
    exact ev_map (spec_l1All_ev 1 120 l (by omega)) rfl
  · simp only [c, decide_false, Bool.false_and, Bool.false_eq_true, if_false]
    exact Ev.now _
theorem impl_AreChapters_ev (l : List Int) (hl : l.length ≤ 1048576) : Ev (fun k => impl_AreChapters.f k l) (caOk l) := by
  simp only [impl_AreChapters.f]
  refine ev_some (impl_within_eq _ _ _) ?_
  unfold caOk
  by_cases c : 1 ≤ (l.length : Int) ∧ (l.length : Int) ≤ 12
  · simp only [c, and_self, decide_true, if_true, Bool.true_and]
    exact ev_map (impl_allWithin_ev 1 120 l (by omega)) rfl
  · simp only [c, decide_false, Bool.false_and, Bool.false_eq_true, if_false]
    exact Ev.now _

theorem tmod2 {x : Int} (h : 0 ≤ x) : Int.tmod x 2 = x % 2 := Int.tmod_eq_emod_of_nonneg h

def beg (rt : Bool) (p : Int) : Int := if rt = true ∧ p % 2 = 0 then p + 1 else p
theorem beg_le (rt : Bool) (p : Int) : p ≤ beg rt p ∧ beg rt p ≤ p + 1 := by
  unfold beg
  split <;> omega
def lay (rt : Bool) : Int → List Int → List Int × List Int × Int
  | p, [] => ([], [], p)
  | p, n :: l => (beg rt p :: (lay rt (beg rt p + n) l).1, (if rt = true ∧ p % 2 = 0 then [p] else []) ++ (lay rt (beg rt p + n) l).2.1, (lay rt (beg rt p + n) l).2.2)
theorem lay_len (rt : Bool) : ∀ (l : List Int) (p : Int), (lay rt p l).1.length = l.length
  | [], _ => rfl
  | n :: l, p => by simp [lay, lay_len rt l]
theorem lay_blen (rt : Bool) : ∀ (l : List Int) (p : Int), (lay rt p l).2.1.length ≤ l.length
  | [], _ => by simp [lay]
  | n :: l, p => by
    have := lay_blen rt l (beg rt p + n)
    simp only [lay, List.length_append, List.length_cons]
    split <;> simp <;> omega
theorem lay_e_app (rt : Bool) : ∀ (a b : List Int) (p : Int), (lay rt p (a ++ b)).2.2 = (lay rt (lay rt p a).2.2 b).2.2
  | [], _, _ => rfl
  | n :: a, b, p => by simp only [List.cons_append, lay]; exact lay_e_app rt a b _
theorem lay_f_app (rt : Bool) : ∀ (a b : List Int) (p : Int), (lay rt p (a ++ b)).1 = (lay rt p a).1 ++ (lay rt (lay rt p a).2.2 b).1
  | [], _, _ => rfl
  | n :: a, b, p => by simp only [List.cons_append, lay]; rw [lay_f_app rt a b _]
/-- The page behind the first i chapters. -/
def pre (rt : Bool) (l : List Int) (i : Nat) : Int := (lay rt 1 (l.take i)).2.2
theorem pre_zero (rt : Bool) (l : List Int) : pre rt l 0 = 1 := rfl
theorem pre_succ (rt : Bool) (l : List Int) (i : Nat) (h : i < l.length) : pre rt l (i + 1) = beg rt (pre rt l i) + l[i] := by
  unfold pre
  rw [List.take_succ_eq_append_getElem h, lay_e_app]
  rfl
theorem pre_bd (rt : Bool) (l : List Int) (hp : ∀ x ∈ l, 1 ≤ x ∧ x ≤ 120) : ∀ i, i ≤ l.length → 1 + (i : Int) ≤ pre rt l i ∧ pre rt l i ≤ 1 + 121 * (i : Int)
  | 0, _ => by rw [pre_zero]; omega
  | i + 1, h => by
    have h1 := pre_bd rt l hp i (by omega)
    have h2 := hp _ (List.getElem_mem (show i < l.length by omega))
    have h3 := beg_le rt (pre rt l i)
    rw [pre_succ rt l i (by omega)]
    omega
theorem lay_pre (rt : Bool) (l : List Int) (i : Nat) : lay rt (pre rt l i) (l.drop i) = ((lay rt 1 l).1.drop i, (lay rt (pre rt l i) (l.drop i)).2.1, (lay rt 1 l).2.2) := by
  have h1 := lay_e_app rt (l.take i) (l.drop i) 1
  have h2 := lay_f_app rt (l.take i) (l.drop i) 1
  rw [List.take_append_drop] at h1 h2
  have h3 : (lay rt 1 l).1.drop i = (lay rt (pre rt l i) (l.drop i)).1 := by
    by_cases hi : i ≤ l.length
    · rw [h2, List.drop_append, List.drop_eq_nil_of_le (by rw [lay_len]; simp; omega), lay_len]
      simp [pre]
      rw [show i - min i l.length = 0 by omega]
      rfl
    · rw [List.drop_eq_nil_of_le (by rw [lay_len]; omega), List.drop_eq_nil_of_le (by omega)]
      rfl
  rw [h3, h1]
  rfl
theorem first_at (rt : Bool) (l : List Int) (i : Nat) (h : i < l.length) : (lay rt 1 l).1[i]? = some (beg rt (pre rt l i)) := by
  have h1 := congrArg Prod.fst (lay_pre rt l i)
  simp only at h1
  rw [List.drop_eq_getElem_cons h] at h1
  simp only [lay] at h1
  have h2 := congrArg List.head? h1
  rw [List.head?_drop] at h2
  simpa using h2.symm
theorem even_beg (rt : Bool) (p : Int) : (if rt = true then (if p % 2 = 0 then p + 1 else p) else p) = beg rt p := by
  unfold beg
  cases rt <;> simp
theorem spec_caBegin_ev (rt : Bool) (l : List Int) (hl : l.length ≤ 12) (hp : ∀ x ∈ l, 1 ≤ x ∧ x ≤ 120) : Ev (fun k => spec_caBegin.f k l rt) ((lay rt 1 l).1 ++ [(lay rt 1 l).2.2]) := by
  have key : ∀ (d i : Nat), i + d = l.length → Ev (fun k => spec_caBegin.l0 k rt ((lay rt 1 l).1.take i) (pre rt l i) l (l.length : Int) (i : Int)) ((lay rt 1 l).1 ++ [(lay rt 1 l).2.2]) := by
    intro d
    induction d with
    | zero =>
      intro i h
      refine ev_succ ?_
      simp only [spec_caBegin.l0]
      refine ev_else (by omega) ?_
      refine ev_if (by simp [lay_len]; omega) ?_
      refine ev_ret ?_
      rw [List.take_of_length_le (by rw [lay_len]; omega)]
      unfold pre
      rw [List.take_of_length_le (by omega)]
    | succ d ih =>
      intro i h
      have h1 : i < l.length := by omega
      have hx := hp l[i] (List.getElem_mem h1)
      have hb := pre_bd rt l hp i (by omega)
      have hg := beg_le rt (pre rt l i)
      have hf : (lay rt 1 l).1.take (i + 1) = (lay rt 1 l).1.take i ++ [beg rt (pre rt l i)] := by rw [List.take_add_one, first_at rt l i h1]; rfl
      have hlt : ((lay rt 1 l).1.take i).length < 17592186044416 := by simp [lay_len]; omega
      refine Ev.step (f := fun k => spec_caBegin.l0 k rt ((lay rt 1 l).1.take (i + 1)) (pre rt l (i + 1)) l (l.length : Int) ((i + 1 : Nat) : Int)) (fun k => ?_) (ih (i + 1) (by omega))
      rw [hf, pre_succ rt l i h1]
      simp only [spec_caBegin.l0]
      rw [if_pos (by omega), if_pos (by omega), if_pos (by omega), rd_nat l i h1, w64s (by omega), tmod2 (by omega), if_pos hlt, w64 (x := pre rt l i + 1) (by omega) (by omega), w64 (x := pre rt l i + l[i]) (by omega) (by omega), w64 (x := pre rt l i + 1 + l[i]) (by omega) (by omega), if_pos hlt]
      unfold beg
      cases rt
      · simp
      · by_cases c : pre true l i % 2 = 0
        · simp [c]
        · simp [c]
  refine ev_eq ?_ (key l.length 0 (by omega))
  funext k
  rfl
theorem impl_laid_ev (rt : Bool) (l : List Int) (hl : l.length ≤ 12) (hp : ∀ x ∈ l, 1 ≤ x ∧ x ≤ 120) : Ev (fun k => impl_laid.f k l rt) ((lay rt 1 l).1, (lay rt 1 l).2.1, (lay rt 1 l).2.2 - 1) := by
  have key : ∀ (d i : Nat) (b : List Int), i + d = l.length → b.length ≤ i → Ev (fun k => impl_laid.l0 k rt ((lay rt 1 l).1.take i) b (pre rt l i) l (l.length : Int) (i : Int)) ((lay rt 1 l).1, b ++ (lay rt (pre rt l i) (l.drop i)).2.1, (lay rt 1 l).2.2 - 1) := by
    intro d
    induction d with
    | zero =>
      intro i b h hbl
      have hb := pre_bd rt l hp i (by omega)
      refine ev_succ ?_
      simp only [impl_laid.l0]
      refine ev_else (by omega) ?_
      rw [w64 (by omega) (by omega)]
      refine ev_ret ?_
      rw [List.take_of_length_le (by rw [lay_len]; omega), List.drop_eq_nil_of_le (by omega)]
      unfold pre
      rw [List.take_of_length_le (by omega)]
      simp [lay]
    | succ d ih =>
      intro i b h hbl
      have h1 : i < l.length := by omega
      have hx := hp l[i] (List.getElem_mem h1)
      have hb := pre_bd rt l hp i (by omega)
      have hg := beg_le rt (pre rt l i)
      have hf : (lay rt 1 l).1.take (i + 1) = (lay rt 1 l).1.take i ++ [beg rt (pre rt l i)] := by rw [List.take_add_one, first_at rt l i h1]; rfl
      have hlt : ((lay rt 1 l).1.take i).length < 17592186044416 := by simp [lay_len]; omega
      have hbl' : b.length < 17592186044416 := by omega
      have := ih (i + 1) (b ++ if rt = true ∧ pre rt l i % 2 = 0 then [pre rt l i] else []) (by omega) (by rw [List.length_append]; split <;> simp <;> omega)
      rw [pre_succ rt l i h1, List.append_assoc] at this
      rw [List.drop_eq_getElem_cons h1]
      simp only [lay]
      refine Ev.step (fun k => ?_) this
      rw [hf]
      simp only [impl_laid.l0]
      rw [if_pos (by omega), if_pos (by omega), if_pos (by omega), rd_nat l i h1, w64s (by omega), tmod2 (by omega), if_pos hlt, if_pos hbl', w64 (x := pre rt l i + 1) (by omega) (by omega), w64 (x := pre rt l i + l[i]) (by omega) (by omega), w64 (x := pre rt l i + 1 + l[i]) (by omega) (by omega), if_pos hlt]
      unfold beg
      cases rt
      · simp
      · by_cases c : pre true l i % 2 = 0
        · simp [c]
        · simp [c]
  refine ev_eq ?_ (key l.length 0 [] (by omega) (by simp))
  funext k
  rfl

theorem getElem_of {α : Type} {l : List α} {i : Nat} {a : α} (h : l[i]? = some a) (hi : i < l.length) : l[i] = a := by
  rw [List.getElem?_eq_getElem hi] at h
  exact Option.some.inj h
/-- Where the page is found, chapter by chapter. -/
def find (rt : Bool) (l : List Int) (page : Int) : Nat → Nat → Int × Int × Bool
  | 0, _ => (0, 0, false)
  | d + 1, i => if beg rt (pre rt l i) ≤ page ∧ page ≤ beg rt (pre rt l i) + rd l (i : Int) - 1 then ((i : Int), page - beg rt (pre rt l i) + 1, true) else find rt l page d (i + 1)
theorem find_none (rt : Bool) (l : List Int) (hp : ∀ x ∈ l, 1 ≤ x ∧ x ≤ 120) (page : Int) (h : page < 1) : ∀ d i, i + d = l.length → find rt l page d i = (0, 0, false)
  | 0, _, _ => rfl
  | d + 1, i, hi => by
    have hb := pre_bd rt l hp i (by omega)
    have hg := beg_le rt (pre rt l i)
    unfold find
    rw [if_neg (by omega)]
    exact find_none rt l hp page h d (i + 1) (by omega)
theorem same (l : List Int) (rt : Bool) (page : Int) (hl : l.length ≤ 1048576) (hw : ∀ x ∈ l, (Lit.int .i64 x).wf = true) (hpg : (Lit.int .i64 page).wf = true) : ∃ r, Ev (fun k => spec_ChapterOfPage.f k l rt page) r ∧ Ev (fun k => impl_ChapterOfPage.f k l rt page) r := by
  simp only [spec_ChapterOfPage.f, impl_ChapterOfPage.f]
  by_cases c : caOk l = true
  · have hn := caOk_len c
    have hp := caOk_all c
    have hpage := wf_i64 hpg
    refine ⟨find rt l page l.length 0, Ev.bind (spec_caGood_ev l hl) ?_, Ev.bind (impl_AreChapters_ev l hl) ?_⟩
    · simp only [c, if_true]
      refine ev_succ ?_
      simp only [spec_ChapterOfPage.j0]
      by_cases h1 : page < 1
      · simp only [h1, decide_true, if_true]
        exact ev_ret (find_none rt l hp page h1 _ _ (by omega)).symm
      · simp only [h1, decide_false, Bool.false_eq_true, if_false]
        refine Ev.bind (spec_caBegin_ev rt l hn.2 hp) ?_
        generalize hB : (lay rt 1 l).1 ++ [(lay rt 1 l).2.2] = B
        have hlen : B.length = l.length + 1 := by rw [← hB]; simp [lay_len]
        have hat : ∀ i (h : i < l.length), rd B (i : Int) = beg rt (pre rt l i) := by
          intro i h
          rw [rd_nat B i (by omega)]
          refine getElem_of ?_ _
          rw [← hB, List.getElem?_append_left (by rw [lay_len]; omega)]
          exact first_at rt l i h
        have key : ∀ (d i : Nat), i + d = l.length → Ev (fun k => spec_ChapterOfPage.l0 k page B l (l.length : Int) (i : Int)) (find rt l page d i) := by
          intro d
          induction d with
          | zero =>
            intro i h
            refine ev_succ ?_
            simp only [spec_ChapterOfPage.l0]
            refine ev_else (by omega) ?_
            exact ev_ret rfl
          | succ d ih =>
            intro i h
            have h2 : i < l.length := by omega
            have hx := hp l[i] (List.getElem_mem h2)
            have hb := pre_bd rt l hp i (by omega)
            have hg := beg_le rt (pre rt l i)
            have hr := rd_nat l i h2
            refine ev_succ ?_
            simp only [spec_ChapterOfPage.l0]
            refine ev_if (by omega) ?_
            refine ev_if (by omega) ?_
            refine ev_if (by omega) ?_
            refine ev_if (by omega) ?_
            rw [hat i h2, w64 (x := beg rt (pre rt l i) + rd l (i : Int)) (by omega) (by omega), w64 (x := beg rt (pre rt l i) + rd l (i : Int) - 1) (by omega) (by omega)]
            refine ev_some (spec_l1In_eq _ _ _) ?_
            unfold find
            by_cases e : beg rt (pre rt l i) ≤ page ∧ page ≤ beg rt (pre rt l i) + rd l (i : Int) - 1
            · rw [if_pos e]
              simp only [e, and_self, decide_true, if_true]
              rw [w64 (x := page - beg rt (pre rt l i)) (by omega) (by omega), w64 (by omega) (by omega)]
              exact Ev.now _
            · rw [if_neg e]
              simp only [e, decide_false, Bool.false_eq_true, if_false]
              rw [w64s (by omega)]
              exact ih (i + 1) (by omega)
        exact key l.length 0 (by omega)
    · simp only [c, if_true]
      refine Ev.bind (impl_laid_ev rt l hn.2 hp) ?_
      generalize hB : (lay rt 1 l).1 = B
      have hlen : B.length = l.length := by rw [← hB, lay_len]
      have hat : ∀ i (h : i < l.length), rd B (i : Int) = beg rt (pre rt l i) := by
        intro i h
        rw [rd_nat B i (by omega)]
        refine getElem_of ?_ _
        rw [← hB]
        exact first_at rt l i h
      have key : ∀ (d i : Nat), i + d = l.length → Ev (fun k => impl_ChapterOfPage.l0 k page B l (l.length : Int) (i : Int)) (find rt l page d i) := by
        intro d
        induction d with
        | zero =>
          intro i h
          refine ev_succ ?_
          simp only [impl_ChapterOfPage.l0]
          refine ev_else (by omega) ?_
          exact ev_ret rfl
        | succ d ih =>
          intro i h
          have h2 : i < l.length := by omega
          have hx := hp l[i] (List.getElem_mem h2)
          have hb := pre_bd rt l hp i (by omega)
          have hg := beg_le rt (pre rt l i)
          have hr := rd_nat l i h2
          refine ev_succ ?_
          simp only [impl_ChapterOfPage.l0]
          refine ev_if (by omega) ?_
          refine ev_if (by omega) ?_
          refine ev_if (by omega) ?_
          refine ev_if (by omega) ?_
          rw [hat i h2, w64 (x := beg rt (pre rt l i) + rd l (i : Int)) (by omega) (by omega), w64 (x := beg rt (pre rt l i) + rd l (i : Int) - 1) (by omega) (by omega)]
          refine ev_some (impl_within_eq _ _ _) ?_
          unfold find
          by_cases e : beg rt (pre rt l i) ≤ page ∧ page ≤ beg rt (pre rt l i) + rd l (i : Int) - 1
          · rw [if_pos e]
            simp only [e, and_self, decide_true, if_true]
            rw [w64 (x := page - beg rt (pre rt l i)) (by omega) (by omega), w64 (by omega) (by omega)]
            exact Ev.now _
          · rw [if_neg e]
            simp only [e, decide_false, Bool.false_eq_true, if_false]
            rw [w64s (by omega)]
            exact ih (i + 1) (by omega)
      exact key l.length 0 (by omega)
  · refine ⟨(0, 0, false), Ev.bind (spec_caGood_ev l hl) ?_, Ev.bind (impl_AreChapters_ev l hl) ?_⟩
    all_goals simp only [c, Bool.false_eq_true, if_false]
    · refine ev_succ ?_
      simp only [spec_ChapterOfPage.j0, if_true]
      exact Ev.now _
    · exact Ev.now _
theorem FnExactChapterOfPage : laws_FnExactChapterOfPage.Pure := by
  intro l0 rt page hm h8 hw wpage
  refine Ev.rounds (r := true) ?_
  by_cases hl : (l0.length : Int) > 1048576
  · simp only [laws_FnExactChapterOfPage.f, if_pos hl]
    exact Ev.now _
  · have hl' : l0.length ≤ 1048576 := by omega
    obtain ⟨r, h1, h2⟩ := same l0 rt page hl' hw wpage
    simp only [laws_FnExactChapterOfPage.f, if_neg hl]
    repeat (first
      | exact Ev.now _
      | (dsimp only)
      | (with_reducible refine Ev.bind h1 ?_)
      | (with_reducible refine Ev.bind h2 ?_)
      | (with_reducible refine Ev.bind (laws_toIntS_ev _ (by omega)) ?_)
      | (with_reducible refine Ev.bind (laws_eqIntS_ev _ _ (by omega)) ?_)
      | (simp only [decide_true, if_true, bne_self_eq_false, Bool.false_eq_true, if_false, neg_no])
      | (refine ev_succ ?_; simp only [laws_FnExactChapterOfPage.j0]))

end Go.Proofs.Ytmckakhdipjneaa.Pure
