/- The plain law behind FnExactLongestChapter, in lists and numbers alone: the program's and the reference's longest chapter are one. No condition beyond the printed bounds. -/
import Derived.Test.YtmckakhdipjneaaXFnExactLongestChapterx2
set_option linter.unusedVariables false
set_option linter.unusedSimpArgs false
namespace Go.Proofs.Ytmckakhdipjneaa.Pure
open Go.RowKit Go.Proofs.Ytmckakhdipjneaa.XFnExactLongestChapter Go.Proofs.YtmckakhdipjneaaW.PrintWords Go.Proofs.YtmckakhdipjneaaW.PrintLast Go.Proofs.YtmckakhdipjneaaW.PrintMore
/-! ### Small words: rounds, reads, sums without a wrap. -/
theorem ev_some {α β : Type} {g : Option α} {f : Nat → α → Option β} {a : α} {r : β} (h : g = some a) (k : Ev (fun n => f n a) r) : Ev (fun n => g.bind (f n)) r := by
  subst h
  exact k
theorem ev_ret {α : Type} {r s : α} (h : r = s) : Ev (fun _ => some r) s := by
  subst h
  exact Ev.now r
theorem ev_map {α β : Type} {g : Nat → Option α} {f : α → β} {a : α} {r : β} (h : Ev g a) (e : f a = r) : Ev (fun n => (g n).bind fun t => some (f t)) r := Ev.bind h (ev_ret e)
theorem ev_eq {α : Type} {g f : Nat → Option α} {r : α} (h : g = f) (k : Ev f r) : Ev g r := by
  rw [h]
  exact k
theorem w64 {x : Int} (h0 : -9223372036854775808 ≤ x) (h1 : x ≤ 9223372036854775807) : wrap64 x = x := by
  unfold wrap64
  omega
theorem w64s {i : Nat} (h : i < 4611686018427387904) : wrap64 ((i : Int) + 1) = ((i + 1 : Nat) : Int) := by
  rw [w64 (by omega) (by omega)]
  rfl
theorem rd_nat (l : List Int) (i : Nat) (h : i < l.length) : rd l (i : Int) = l[i] := by
  unfold rd
  rw [Int.toNat_natCast, List.getD_eq_getElem?_getD, List.getElem?_eq_getElem h]
  rfl
theorem wf_i64 {x : Int} (h : (Lit.int .i64 x).wf = true) : -9223372036854775808 ≤ x ∧ x ≤ 9223372036854775807 := by
  simp only [Lit.wf, Bool.and_eq_true, decide_eq_true_eq] at h
  exact h
theorem ev_succ {α : Type} {g : Nat → Option α} {r : α} (h : Ev (fun k => g (k + 1)) r) : Ev g r := Ev.step (fun _ => rfl) h
theorem neg_no (n : Nat) : ¬ (1 + (n : Int) < 0) := by omega
theorem ev_if {α : Type} {c : Prop} [Decidable c] {g f : Nat → Option α} {r : α} (h : c) (k : Ev g r) : Ev (fun n => if c then g n else f n) r := Ev.congr (fun _ => if_pos h) k
theorem ev_else {α : Type} {c : Prop} [Decidable c] {g f : Nat → Option α} {r : α} (h : ¬ c) (k : Ev f r) : Ev (fun n => if c then g n else f n) r := Ev.congr (fun _ => if_neg h) k

theorem set_app {α : Type} (a b : List α) (x y : α) (n : Nat) (h : n = a.length) : (a ++ x :: b).set n y = a ++ y :: b := by
  subst h
  simp
theorem laws_toIntS_ev (l : List Int) (hl : l.length ≤ 1048576) : Ev (fun k => laws_toIntS.f k l) l := by
  have key : ∀ (d i : Nat), i + d = l.length → Ev (fun k => laws_toIntS.l0 k l (l.take i ++ List.replicate d 0) (i : Int)) l := by
    intro d
    induction d with
    | zero =>
      intro i h
      refine ev_succ ?_
      simp only [laws_toIntS.l0]
      refine ev_else (by omega) ?_
      refine ev_ret ?_
      rw [List.take_of_length_le (by omega)]
      simp
    | succ d ih =>
      intro i h
      have hi' : i < l.length := by omega
      refine Ev.step (f := fun k => laws_toIntS.l0 k l (l.take (i + 1) ++ List.replicate d 0) ((i + 1 : Nat) : Int)) (fun k => ?_) (ih (i + 1) (by omega))
      simp only [laws_toIntS.l0]
      rw [if_pos (by omega), if_pos (by omega), if_pos (by simp; omega), rd_nat l i hi', w64s (by omega), Int.toNat_natCast, List.replicate_succ, set_app _ _ _ _ _ (by simp; omega), List.take_succ_eq_append_getElem hi']
      simp only [List.append_assoc, List.cons_append, List.nil_append]
  refine ev_eq (f := fun k => laws_toIntS.l0 k l (l.take 0 ++ List.replicate l.length 0) ((0 : Nat) : Int)) ?_ (key l.length 0 (by omega))
  funext k
  simp only [laws_toIntS.f]
  rw [if_pos (by omega), if_pos (by omega)]
  simp

theorem laws_eqIntS_ev (a b : List Int) (hl : a.length ≤ 4611686018427387903) : Ev (fun k => laws_eqIntS.f k a b) (decide (a = b)) := by
  by_cases hlen : a.length = b.length
  · have key : ∀ (d i : Nat), i + d = a.length → Ev (fun k => laws_eqIntS.l0 k a b (i : Int)) (decide (a.drop i = b.drop i)) := by
      intro d
      induction d with
      | zero =>
        intro i h
        rw [List.drop_eq_nil_of_le (by omega), List.drop_eq_nil_of_le (by omega)]
        refine ev_succ ?_
        simp only [laws_eqIntS.l0]
        refine ev_else (by omega) ?_
        exact ev_ret (by simp)
      | succ d ih =>
        intro i h
        have h1 : i < a.length := by omega
        have h2 : i < b.length := by omega
        rw [List.drop_eq_getElem_cons h1, List.drop_eq_getElem_cons h2]
        refine Ev.step (f := fun k => if a[i] = b[i] then laws_eqIntS.l0 k a b ((i + 1 : Nat) : Int) else some false) (fun k => by simp only [laws_eqIntS.l0]; rw [if_pos (by omega), if_pos (by omega), if_pos (by omega), rd_nat a i h1, rd_nat b i h2, w64s (by omega)]) ?_
        by_cases c : a[i] = b[i]
        · simp only [c, if_true, List.cons.injEq, true_and]
          exact ih (i + 1) (by omega)
        · simp only [c, if_false, List.cons.injEq, false_and, decide_false]
          exact Ev.now _
    refine ev_eq (f := fun k => laws_eqIntS.l0 k a b ((0 : Nat) : Int)) ?_ (key a.length 0 (by omega))
    funext k
    simp only [laws_eqIntS.f]
    rw [if_pos (by omega)]
    rfl
  · refine ev_eq (f := fun _ => some false) ?_ (ev_ret (by simp; intro h; exact hlen (by rw [h])))
    funext k
    simp only [laws_eqIntS.f]
    rw [if_neg (by omega)]

theorem spec_l1In_eq (x lo hi : Int) : spec_l1In.f x lo hi = some (decide (lo ≤ x ∧ x ≤ hi)) := by
  unfold spec_l1In.f
  by_cases c : x ≥ lo
  · rw [if_pos c]
    congr 1
    simp only [c, true_and]
  · rw [if_neg c]
    congr 1
    exact (decide_eq_false (fun h => c h.1)).symm

theorem spec_l1All_ev (lo hi : Int) (l : List Int) (hl : l.length ≤ 4611686018427387903) : Ev (fun k => spec_l1All.f k l lo hi) (l.all fun x => decide (lo ≤ x ∧ x ≤ hi)) := by
  have key : ∀ (d i : Nat), i + d = l.length → Ev (fun k => spec_l1All.l0 k lo hi l (l.length : Int) (i : Int)) ((l.drop i).all fun x => decide (lo ≤ x ∧ x ≤ hi)) := by
    intro d
    induction d with
    | zero =>
      intro i h
      rw [List.drop_eq_nil_of_le (by omega)]
      exact Ev.step (f := fun _ => some true) (fun k => by simp only [spec_l1All.l0]; rw [if_neg (by omega)]) (Ev.now _)
    | succ d ih =>
      intro i h
      have hi' : i < l.length := by omega
      rw [List.drop_eq_getElem_cons hi', List.all_cons]
      refine Ev.step (f := fun k => (spec_l1In.f l[i] lo hi).bind fun t => if t = true then spec_l1All.l0 k lo hi l (l.length : Int) ((i + 1 : Nat) : Int) else some false) (fun k => by simp only [spec_l1All.l0]; rw [if_pos (by omega), if_pos (by omega), if_pos (by omega), rd_nat l i hi', w64s (by omega)]) ?_
      refine ev_some (spec_l1In_eq _ _ _) ?_
      by_cases c : lo ≤ l[i] ∧ l[i] ≤ hi
      · simp only [c, and_self, decide_true, if_true, Bool.true_and]
        exact ih (i + 1) (by omega)
      · simp only [c, decide_false, Bool.false_and, Bool.false_eq_true, if_false]
        exact Ev.now _
  exact key l.length 0 (by omega)

theorem impl_within_eq (x lo hi : Int) : impl_within.f x lo hi = some (decide (lo ≤ x ∧ x ≤ hi)) := by
  unfold impl_within.f
  by_cases c : x ≥ lo
  · rw [if_pos c]
    congr 1
    simp only [c, true_and]
  · rw [if_neg c]
    congr 1
    exact (decide_eq_false (fun h => c h.1)).symm

theorem impl_allWithin_ev (lo hi : Int) (l : List Int) (hl : l.length ≤ 4611686018427387903) : Ev (fun k => impl_allWithin.f k l lo hi) (l.all fun x => decide (lo ≤ x ∧ x ≤ hi)) := by
  have key : ∀ (d i : Nat), i + d = l.length → Ev (fun k => impl_allWithin.l0 k lo hi l (l.length : Int) (i : Int)) ((l.drop i).all fun x => decide (lo ≤ x ∧ x ≤ hi)) := by
    intro d
    induction d with
    | zero =>
      intro i h
      rw [List.drop_eq_nil_of_le (by omega)]
      exact Ev.step (f := fun _ => some true) (fun k => by simp only [impl_allWithin.l0]; rw [if_neg (by omega)]) (Ev.now _)
    | succ d ih =>
      intro i h
      have hi' : i < l.length := by omega
      rw [List.drop_eq_getElem_cons hi', List.all_cons]
      refine Ev.step (f := fun k => (impl_within.f l[i] lo hi).bind fun t => if t = true then impl_allWithin.l0 k lo hi l (l.length : Int) ((i + 1 : Nat) : Int) else some false) (fun k => by simp only [impl_allWithin.l0]; rw [if_pos (by omega), if_pos (by omega), if_pos (by omega), rd_nat l i hi', w64s (by omega)]) ?_
      refine ev_some (impl_within_eq _ _ _) ?_
      by_cases c : lo ≤ l[i] ∧ l[i] ≤ hi
      · simp only [c, and_self, decide_true, if_true, Bool.true_and]
        exact ih (i + 1) (by omega)
      · simp only [c, decide_false, Bool.false_and, Bool.false_eq_true, if_false]
        exact Ev.now _
  exact key l.length 0 (by omega)

def caOk (l : List Int) : Bool := decide (1 ≤ (l.length : Int) ∧ (l.length : Int) ≤ 12) && l.all fun x => decide (1 ≤ x ∧ x ≤ 120)
theorem caOk_len {l : List Int} (h : caOk l = true) : 1 ≤ l.length ∧ l.length ≤ 12 := by
  simp only [caOk, Bool.and_eq_true, decide_eq_true_eq] at h
  omega
theorem caOk_all {l : List Int} (h : caOk l = true) : ∀ x ∈ l, 1 ≤ x ∧ x ≤ 120 := by
  simp only [caOk, Bool.and_eq_true, List.all_eq_true, decide_eq_true_eq] at h
  exact h.2
theorem spec_caGood_ev (l : List Int) (hl : l.length ≤ 1048576) : Ev (fun k => spec_caGood.f k l) (caOk l) := by
  simp only [spec_caGood.f]
  refine ev_some (spec_l1In_eq _ _ _) ?_
  unfold caOk
  by_cases c : 1 ≤ (l.length : Int) ∧ (l.length : Int) ≤ 12
  · simp only [c, and_self, decide_true, if_true, Bool.true_and]
    exact ev_map (spec_l1All_ev 1 120 l (by omega)) rfl
  · simp only [c, decide_false, Bool.false_and, Bool.false_eq_true, if_false]
    exact Ev.now _
theorem impl_AreChapters_ev (l : List Int) (hl : l.length ≤ 1048576) : Ev (fun k => impl_AreChapters.f k l) (caOk l) := by
  simp only [impl_AreChapters.f]
  refine ev_some (impl_within_eq _ _ _) ?_
  unfold caOk
  by_cases c : 1 ≤ (l.length : Int) ∧ (l.length : Int) ≤ 12
  · simp only [c, and_self, decide_true, if_true, Bool.true_and]
    exact ev_map (impl_allWithin_ev 1 120 l (by omega)) rfl
  · simp only [c, decide_false, Bool.false_and, Bool.false_eq_true, if_false]
    exact Ev.now _

theorem slices_Max_ev (l : List Int) (h0 : 1 ≤ l.length) (hl : l.length ≤ 1048576) : ∃ r, Ev (fun k => slices_Max_int_int.f k l) r ∧ (∀ j, j < l.length → rd l (j : Int) ≤ r) ∧ ∃ j, j < l.length ∧ rd l (j : Int) = r := by
  have key : ∀ (d i : Nat) (s : Int), i + d = l.length → ∃ r, Ev (fun k => slices_Max_int_int.l0 k l s (i : Int)) r ∧ s ≤ r ∧ (∀ j, i ≤ j → j < l.length → rd l (j : Int) ≤ r) ∧ (r = s ∨ ∃ j, i ≤ j ∧ j < l.length ∧ rd l (j : Int) = r) := by
    intro d
    induction d with
    | zero =>
      intro i s h
      refine ⟨s, ?_, Int.le_refl _, fun j h1 h2 => by omega, .inl rfl⟩
      refine ev_succ ?_
      simp only [slices_Max_int_int.l0]
      refine ev_else (by omega) ?_
      exact Ev.now _
    | succ d ih =>
      intro i s h
      obtain ⟨r, h1, h2, h3, h4⟩ := ih (i + 1) (mx s (rd l (i : Int))) (by omega)
      have hm : s ≤ mx s (rd l (i : Int)) ∧ rd l (i : Int) ≤ mx s (rd l (i : Int)) ∧ (mx s (rd l (i : Int)) = s ∨ mx s (rd l (i : Int)) = rd l (i : Int)) := by
        unfold mx
        split <;> omega
      refine ⟨r, ?_, by omega, fun j a b => ?_, ?_⟩
      · refine ev_succ ?_
        simp only [slices_Max_int_int.l0]
        refine ev_if (by omega) ?_
        refine ev_if (by omega) ?_
        rw [w64s (by omega)]
        exact h1
      · by_cases c : j = i
        · subst c
          omega
        · exact h3 j (by omega) b
      · rcases h4 with h4 | ⟨j, a, b, c⟩
        · rcases hm.2.2 with e | e
          · exact .inl (by omega)
          · exact .inr ⟨i, Nat.le_refl _, by omega, by omega⟩
        · exact .inr ⟨j, by omega, b, c⟩
  obtain ⟨r, h1, h2, h3, h4⟩ := key (l.length - 1) 1 (rd l 0) (by omega)
  refine ⟨r, ?_, fun j hj => ?_, ?_⟩
  · simp only [slices_Max_int_int.f]
    refine ev_else (by omega) ?_
    refine ev_if (by omega) ?_
    exact h1
  · by_cases c : j = 0
    · subst c
      exact h2
    · exact h3 j (by omega) hj
  · rcases h4 with h4 | ⟨j, a, b, c⟩
    · exact ⟨0, by omega, h4.symm⟩
    · exact ⟨j, b, c⟩

theorem slices_Index_ev (l : List Int) (x : Int) (j : Nat) (hj : j < l.length) (hl : l.length ≤ 1048576) (hx : rd l (j : Int) = x) (hn : ∀ i, i < j → rd l (i : Int) ≠ x) : Ev (fun k => slices_Index_int_int.f k l x) ((j : Nat) : Int) := by
  have key : ∀ (d i : Nat), i + d = j → Ev (fun k => slices_Index_int_int.l0 k l x (l.length : Int) (i : Int)) ((j : Nat) : Int) := by
    intro d
    induction d with
    | zero =>
      intro i h
      obtain rfl : i = j := by omega
      refine ev_succ ?_
      simp only [slices_Index_int_int.l0]
      refine ev_if (by omega) ?_
      refine ev_if (by omega) ?_
      refine ev_if (by omega) ?_
      refine ev_if hx.symm ?_
      exact Ev.now _
    | succ d ih =>
      intro i h
      refine ev_succ ?_
      simp only [slices_Index_int_int.l0]
      refine ev_if (by omega) ?_
      refine ev_if (by omega) ?_
      refine ev_if (by omega) ?_
      refine ev_else (fun e => hn i (by omega) e.symm) ?_
      rw [w64s (by omega)]
      exact ih (i + 1) (by omega)
  exact key j 0 (by omega)
theorem slices_Index_none (l : List Int) (x : Int) (hl : l.length ≤ 1048576) (hn : ∀ i, i < l.length → rd l (i : Int) ≠ x) : Ev (fun k => slices_Index_int_int.f k l x) (-1) := by
  have key : ∀ (d i : Nat), i + d = l.length → Ev (fun k => slices_Index_int_int.l0 k l x (l.length : Int) (i : Int)) (-1) := by
    intro d
    induction d with
    | zero =>
      intro i h
      refine ev_succ ?_
      simp only [slices_Index_int_int.l0]
      refine ev_else (by omega) ?_
      exact Ev.now _
    | succ d ih =>
      intro i h
      refine ev_succ ?_
      simp only [slices_Index_int_int.l0]
      refine ev_if (by omega) ?_
      refine ev_if (by omega) ?_
      refine ev_if (by omega) ?_
      refine ev_else (fun e => hn i (by omega) e.symm) ?_
      rw [w64s (by omega)]
      exact ih (i + 1) (by omega)
  exact key l.length 0 (by omega)

theorem spec_loop (l : List Int) (hl : l.length ≤ 12) : ∀ (d i b : Nat), i + d = l.length → b < l.length → (∀ j, j < i → rd l (j : Int) ≤ rd l (b : Int)) → (∀ j, j < b → rd l (j : Int) < rd l (b : Int)) →
    ∃ b' : Nat, Ev (fun k => spec_LongestChapter.l0 k l (b : Int) l (l.length : Int) (i : Int)) ((b' : Int), rd l (b' : Int), true) ∧ b' < l.length ∧ (∀ j, j < l.length → rd l (j : Int) ≤ rd l (b' : Int)) ∧ (∀ j, j < b' → rd l (j : Int) < rd l (b' : Int)) := by
  intro d
  induction d with
  | zero =>
    intro i b h hb h1 h2
    refine ⟨b, ?_, hb, fun j hj => h1 j (by omega), h2⟩
    refine ev_succ ?_
    simp only [spec_LongestChapter.l0]
    refine ev_else (by omega) ?_
    refine ev_if (by omega) ?_
    refine ev_if (by omega) ?_
    exact Ev.now _
  | succ d ih =>
    intro i b h hb h1 h2
    by_cases c : rd l (i : Int) > rd l (b : Int)
    · obtain ⟨b', a1, a2, a3, a4⟩ := ih (i + 1) i (by omega) (by omega) (fun j hj => by
        by_cases e : j = i
        · subst e
          omega
        · have := h1 j (by omega)
          omega) (fun j hj => by
        have := h1 j (by omega)
        omega)
      refine ⟨b', ?_, a2, a3, a4⟩
      refine ev_succ ?_
      simp only [spec_LongestChapter.l0]
      refine ev_if (by omega) ?_
      refine ev_if (by omega) ?_
      refine ev_if (by omega) ?_
      refine ev_if (by omega) ?_
      refine ev_if (by omega) ?_
      refine ev_if c ?_
      rw [w64s (by omega)]
      exact a1
    · obtain ⟨b', a1, a2, a3, a4⟩ := ih (i + 1) b (by omega) hb (fun j hj => by
        by_cases e : j = i
        · subst e
          omega
        · exact h1 j (by omega)) h2
      refine ⟨b', ?_, a2, a3, a4⟩
      refine ev_succ ?_
      simp only [spec_LongestChapter.l0]
      refine ev_if (by omega) ?_
      refine ev_if (by omega) ?_
      refine ev_if (by omega) ?_
      refine ev_if (by omega) ?_
      refine ev_if (by omega) ?_
      refine ev_else c ?_
      rw [w64s (by omega)]
      exact a1
theorem same (l : List Int) (hl : l.length ≤ 1048576) (hw : ∀ x ∈ l, (Lit.int .i64 x).wf = true) : ∃ r, Ev (fun k => spec_LongestChapter.f k l) r ∧ Ev (fun k => impl_LongestChapter.f k l) r := by
  simp only [spec_LongestChapter.f, impl_LongestChapter.f]
  by_cases c : caOk l = true
  · have hn := caOk_len c
    obtain ⟨b, a1, a2, a3, a4⟩ := spec_loop l hn.2 l.length 0 0 (by omega) (by omega) (fun j hj => by omega) (fun j hj => by omega)
    obtain ⟨m, m1, m2, j, m3, m4⟩ := slices_Max_ev l hn.1 hl
    obtain rfl : rd l (b : Int) = m := by
      have := m2 b a2
      have := a3 j m3
      omega
    refine ⟨((b : Int), rd l (b : Int), true), Ev.bind (spec_caGood_ev l hl) ?_, Ev.bind (impl_AreChapters_ev l hl) ?_⟩
    · simp only [c, if_true]
      exact a1
    · simp only [c, if_true]
      refine Ev.bind m1 ?_
      refine Ev.bind (slices_Index_ev l _ b a2 hl rfl (fun i hi => by have := a4 i hi; omega)) ?_
      exact Ev.now _
  · refine ⟨(0, 0, false), Ev.bind (spec_caGood_ev l hl) ?_, Ev.bind (impl_AreChapters_ev l hl) ?_⟩
    all_goals
      simp only [c, Bool.false_eq_true, if_false]
      exact Ev.now _
theorem FnExactLongestChapter : laws_FnExactLongestChapter.Pure := by
  intro l0  hm h8 hw 
  refine Ev.rounds (r := true) ?_
  by_cases hl : (l0.length : Int) > 1048576
  · simp only [laws_FnExactLongestChapter.f, if_pos hl]
    exact Ev.now _
  · have hl' : l0.length ≤ 1048576 := by omega
    obtain ⟨r, h1, h2⟩ := same l0  hl' hw 
    simp only [laws_FnExactLongestChapter.f, if_neg hl]
    repeat (first
      | exact Ev.now _
      | (with_reducible refine Ev.bind h1 ?_)
      | (with_reducible refine Ev.bind h2 ?_)
      | (with_reducible refine Ev.bind (laws_toIntS_ev _ (by omega)) ?_)
      | (with_reducible refine Ev.bind (laws_eqIntS_ev _ _ (by omega)) ?_)
      | (simp only [decide_true, if_true, bne_self_eq_false, Bool.false_eq_true, if_false, neg_no])
      | (refine ev_succ ?_; simp only [laws_FnExactLongestChapter.j0]))

end Go.Proofs.Ytmckakhdipjneaa.Pure
