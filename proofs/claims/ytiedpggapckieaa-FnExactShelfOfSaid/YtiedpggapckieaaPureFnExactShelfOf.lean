/- The plain law behind FnExactShelfOf, in lists and numbers alone: the program's and the reference's shelves of volumes are one. No condition beyond the printed bounds. -/
import Derived.Test.YtiedpggapckieaaPFnExactShelfOfx4
set_option linter.unusedVariables false
set_option linter.unusedSimpArgs false
namespace Go.Proofs.Ytiedpggapckieaa.Pure
open Go.RowKit Go.Proofs.Ytiedpggapckieaa.PFnExactShelfOf Go.Proofs.YtiedpggapckieaaW.PrintWords Go.Proofs.YtiedpggapckieaaW.PrintLast Go.Proofs.YtiedpggapckieaaW.PrintMore
/-! ### Small words: rounds, reads, sums without a wrap. -/
theorem ev_some {α β : Type} {g : Option α} {f : Nat → α → Option β} {a : α} {r : β} (h : g = some a) (k : Ev (fun n => f n a) r) : Ev (fun n => g.bind (f n)) r := by
  subst h
  exact k
theorem ev_ret {α : Type} {r s : α} (h : r = s) : Ev (fun _ => some r) s := by
  subst h
  exact Ev.now r
theorem ev_map {α β : Type} {g : Nat → Option α} {f : α → β} {a : α} {r : β} (h : Ev g a) (e : f a = r) : Ev (fun n => (g n).bind fun t => some (f t)) r := Ev.bind h (ev_ret e)
theorem ev_eq {α : Type} {g f : Nat → Option α} {r : α} (h : g = f) (k : Ev f r) : Ev g r := by
  rw [h]
  exact k
theorem w64 {x : Int} (h0 : -9223372036854775808 ≤ x) (h1 : x ≤ 9223372036854775807) : wrap64 x = x := by
  unfold wrap64
  omega
theorem w64s {i : Nat} (h : i < 4611686018427387904) : wrap64 ((i : Int) + 1) = ((i + 1 : Nat) : Int) := by
  rw [w64 (by omega) (by omega)]
  rfl
theorem rd_nat (l : List Int) (i : Nat) (h : i < l.length) : rd l (i : Int) = l[i] := by
  unfold rd
  rw [Int.toNat_natCast, List.getD_eq_getElem?_getD, List.getElem?_eq_getElem h]
  rfl
theorem wf_i64 {x : Int} (h : (Lit.int .i64 x).wf = true) : -9223372036854775808 ≤ x ∧ x ≤ 9223372036854775807 := by
  simp only [Lit.wf, Bool.and_eq_true, decide_eq_true_eq] at h
  exact h
theorem ev_succ {α : Type} {g : Nat → Option α} {r : α} (h : Ev (fun k => g (k + 1)) r) : Ev g r := Ev.step (fun _ => rfl) h
theorem neg_no (n : Nat) : ¬ (1 + (n : Int) < 0) := by omega
theorem ev_if {α : Type} {c : Prop} [Decidable c] {g f : Nat → Option α} {r : α} (h : c) (k : Ev g r) : Ev (fun n => if c then g n else f n) r := Ev.congr (fun _ => if_pos h) k
theorem ev_else {α : Type} {c : Prop} [Decidable c] {g f : Nat → Option α} {r : α} (h : ¬ c) (k : Ev f r) : Ev (fun n => if c then g n else f n) r := Ev.congr (fun _ => if_neg h) k

theorem set_app {α : Type} (a b : List α) (x y : α) (n : Nat) (h : n = a.length) : (a ++ x :: b).set n y = a ++ y :: b := by
  subst h
  simp
theorem laws_toIntS_ev (l : List Int) (hl : l.length ≤ 1048576) : Ev (fun k => laws_toIntS.f k l) l := by
  have key : ∀ (d i : Nat), i + d = l.length → Ev (fun k => laws_toIntS.l0 k l (l.take i ++ List.replicate d 0) (i : Int)) l := by
    intro d
    induction d with
    | zero =>
      intro i h
      refine ev_succ ?_
      simp only [laws_toIntS.l0]
      refine ev_else (by omega) ?_
      refine ev_ret ?_
      rw [List.take_of_length_le (by omega)]
      simp
    | succ d ih =>
      intro i h
      have hi' : i < l.length := by omega
      refine Ev.step (f := fun k => laws_toIntS.l0 k l (l.take (i + 1) ++ List.replicate d 0) ((i + 1 : Nat) : Int)) (fun k => ?_) (ih (i + 1) (by omega))
      simp only [laws_toIntS.l0]
      rw [if_pos (by omega), if_pos (by omega), if_pos (by simp; omega), rd_nat l i hi', w64s (by omega), Int.toNat_natCast, List.replicate_succ, set_app _ _ _ _ _ (by simp; omega), List.take_succ_eq_append_getElem hi']
      simp only [List.append_assoc, List.cons_append, List.nil_append]
  refine ev_eq (f := fun k => laws_toIntS.l0 k l (l.take 0 ++ List.replicate l.length 0) ((0 : Nat) : Int)) ?_ (key l.length 0 (by omega))
  funext k
  simp only [laws_toIntS.f]
  rw [if_pos (by omega), if_pos (by omega)]
  simp

def marked (m : Int) (n : Nat) : List Int := (List.range n).map fun (j : Nat) => m + (j : Int)
theorem marked_succ (m : Int) (n : Nat) : marked m (n + 1) = marked m n ++ [m + (n : Int)] := by
  unfold marked
  rw [List.range_succ]
  simp
theorem marked_len (m : Int) (n : Nat) : (marked m n).length = n := by simp [marked]
theorem laws_markIntS_ev (l : List Int) (hl : l.length ≤ 1048576) : Ev (fun k => laws_markIntS.f k l 1) (1 + (l.length : Int), marked 1 l.length) := by
  have key : ∀ (d i : Nat), i + d = l.length → Ev (fun k => laws_markIntS.l0 k (marked 1 i ++ l.drop i) (1 + (i : Int)) (i : Int)) (1 + (l.length : Int), marked 1 l.length) := by
    intro d
    induction d with
    | zero =>
      intro i h
      obtain rfl : i = l.length := by omega
      refine ev_succ ?_
      simp only [laws_markIntS.l0]
      refine ev_else (by simp [marked_len]) ?_
      refine ev_ret ?_
      simp
    | succ d ih =>
      intro i h
      have h1 : i < l.length := by omega
      refine Ev.step (f := fun k => laws_markIntS.l0 k (marked 1 (i + 1) ++ l.drop (i + 1)) (1 + ((i + 1 : Nat) : Int)) ((i + 1 : Nat) : Int)) (fun k => ?_) (ih (i + 1) (by omega))
      simp only [laws_markIntS.l0]
      rw [if_pos (by simp [marked_len]; omega), if_pos (by omega), w64s (by omega), Int.toNat_natCast, List.drop_eq_getElem_cons h1, set_app _ _ _ _ _ (by simp [marked_len]), w64 (by omega) (by omega), marked_succ]
      simp only [List.append_assoc, List.singleton_append, Int.natCast_succ, Int.add_assoc]
  refine ev_eq (f := fun k => laws_markIntS.l0 k (marked 1 0 ++ l.drop 0) (1 + ((0 : Nat) : Int)) ((0 : Nat) : Int)) ?_ (key l.length 0 (by omega))
  funext k
  simp only [laws_markIntS.f]
  simp [marked]
theorem laws_heldIntS_ev (n : Nat) (hl : n ≤ 1048576) : Ev (fun k => laws_heldIntS.f k (marked 1 n) 1) (1 + (n : Int)) := by
  have key : ∀ (d i : Nat), i + d = n → Ev (fun k => laws_heldIntS.l0 k (marked 1 n) (1 + (i : Int)) (i : Int)) (1 + (n : Int)) := by
    intro d
    induction d with
    | zero =>
      intro i h
      obtain rfl : i = n := by omega
      refine ev_succ ?_
      simp only [laws_heldIntS.l0]
      refine ev_else (by simp [marked_len]) ?_
      exact ev_ret rfl
    | succ d ih =>
      intro i h
      refine Ev.step (f := fun k => laws_heldIntS.l0 k (marked 1 n) (1 + ((i + 1 : Nat) : Int)) ((i + 1 : Nat) : Int)) (fun k => ?_) (ih (i + 1) (by omega))
      simp only [laws_heldIntS.l0]
      rw [if_pos (by simp [marked_len]; omega), if_pos (by omega), rd_nat _ i (by simp [marked_len]; omega), if_pos (by simp [marked]), w64s (by omega), w64 (by omega) (by omega)]
      simp only [Int.natCast_succ, Int.add_assoc]
  refine ev_eq (f := fun k => laws_heldIntS.l0 k (marked 1 n) (1 + ((0 : Nat) : Int)) ((0 : Nat) : Int)) ?_ (key n 0 (by omega))
  funext k
  simp only [laws_heldIntS.f]
  simp

theorem laws_eqIntS_ev (a b : List Int) (hl : a.length ≤ 4611686018427387903) : Ev (fun k => laws_eqIntS.f k a b) (decide (a = b)) := by
  by_cases hlen : a.length = b.length
  · have key : ∀ (d i : Nat), i + d = a.length → Ev (fun k => laws_eqIntS.l0 k a b (i : Int)) (decide (a.drop i = b.drop i)) := by
      intro d
      induction d with
      | zero =>
        intro i h
        rw [List.drop_eq_nil_of_le (by omega), List.drop_eq_nil_of_le (by omega)]
        refine ev_succ ?_
        simp only [laws_eqIntS.l0]
        refine ev_else (by omega) ?_
        exact ev_ret (by simp)
      | succ d ih =>
        intro i h
        have h1 : i < a.length := by omega
        have h2 : i < b.length := by omega
        rw [List.drop_eq_getElem_cons h1, List.drop_eq_getElem_cons h2]
        refine Ev.step (f := fun k => if a[i] = b[i] then laws_eqIntS.l0 k a b ((i + 1 : Nat) : Int) else some false) (fun k => by simp only [laws_eqIntS.l0]; rw [if_pos (by omega), if_pos (by omega), if_pos (by omega), rd_nat a i h1, rd_nat b i h2, w64s (by omega)]) ?_
        by_cases c : a[i] = b[i]
        · simp only [c, if_true, List.cons.injEq, true_and]
          exact ih (i + 1) (by omega)
        · simp only [c, if_false, List.cons.injEq, false_and, decide_false]
          exact Ev.now _
    refine ev_eq (f := fun k => laws_eqIntS.l0 k a b ((0 : Nat) : Int)) ?_ (key a.length 0 (by omega))
    funext k
    simp only [laws_eqIntS.f]
    rw [if_pos (by omega)]
    rfl
  · refine ev_eq (f := fun _ => some false) ?_ (ev_ret (by simp; intro h; exact hlen (by rw [h])))
    funext k
    simp only [laws_eqIntS.f]
    rw [if_neg (by omega)]

theorem spec_l1In_eq (x lo hi : Int) : spec_l1In.f x lo hi = some (decide (lo ≤ x ∧ x ≤ hi)) := by
  unfold spec_l1In.f
  by_cases c : x ≥ lo
  · rw [if_pos c]
    congr 1
    simp only [c, true_and]
  · rw [if_neg c]
    congr 1
    exact (decide_eq_false (fun h => c h.1)).symm

theorem spec_l1All_ev (lo hi : Int) (l : List Int) (hl : l.length ≤ 4611686018427387903) : Ev (fun k => spec_l1All.f k l lo hi) (l.all fun x => decide (lo ≤ x ∧ x ≤ hi)) := by
  have key : ∀ (d i : Nat), i + d = l.length → Ev (fun k => spec_l1All.l0 k lo hi l (l.length : Int) (i : Int)) ((l.drop i).all fun x => decide (lo ≤ x ∧ x ≤ hi)) := by
    intro d
    induction d with
    | zero =>
      intro i h
      rw [List.drop_eq_nil_of_le (by omega)]
      exact Ev.step (f := fun _ => some true) (fun k => by simp only [spec_l1All.l0]; rw [if_neg (by omega)]) (Ev.now _)
    | succ d ih =>
      intro i h
      have hi' : i < l.length := by omega
      rw [List.drop_eq_getElem_cons hi', List.all_cons]
      refine Ev.step (f := fun k => (spec_l1In.f l[i] lo hi).bind fun t => if t = true then spec_l1All.l0 k lo hi l (l.length : Int) ((i + 1 : Nat) : Int) else some false) (fun k => by simp only [spec_l1All.l0]; rw [if_pos (by omega), if_pos (by omega), if_pos (by omega), rd_nat l i hi', w64s (by omega)]) ?_
      refine ev_some (spec_l1In_eq _ _ _) ?_
      by_cases c : lo ≤ l[i] ∧ l[i] ≤ hi
      · simp only [c, and_self, decide_true, if_true, Bool.true_and]
        exact ih (i + 1) (by omega)
      · simp only [c, decide_false, Bool.false_and, Bool.false_eq_true, if_false]
        exact Ev.now _
  exact key l.length 0 (by omega)

theorem impl_within_eq (x lo hi : Int) : impl_within.f x lo hi = some (decide (lo ≤ x ∧ x ≤ hi)) := by
  unfold impl_within.f
  by_cases c : x ≥ lo
  · rw [if_pos c]
    congr 1
    simp only [c, true_and]
  · rw [if_neg c]
    congr 1
    exact (decide_eq_false (fun h => c h.1)).symm

theorem impl_allWithin_ev (lo hi : Int) (l : List Int) (hl : l.length ≤ 4611686018427387903) : Ev (fun k => impl_allWithin.f k l lo hi) (l.all fun x => decide (lo ≤ x ∧ x ≤ hi)) := by
  have key : ∀ (d i : Nat), i + d = l.length → Ev (fun k => impl_allWithin.l0 k lo hi l (l.length : Int) (i : Int)) ((l.drop i).all fun x => decide (lo ≤ x ∧ x ≤ hi)) := by
    intro d
    induction d with
    | zero =>
      intro i h
      rw [List.drop_eq_nil_of_le (by omega)]
      exact Ev.step (f := fun _ => some true) (fun k => by simp only [impl_allWithin.l0]; rw [if_neg (by omega)]) (Ev.now _)
    | succ d ih =>
      intro i h
      have hi' : i < l.length := by omega
      rw [List.drop_eq_getElem_cons hi', List.all_cons]
      refine Ev.step (f := fun k => (impl_within.f l[i] lo hi).bind fun t => if t = true then impl_allWithin.l0 k lo hi l (l.length : Int) ((i + 1 : Nat) : Int) else some false) (fun k => by simp only [impl_allWithin.l0]; rw [if_pos (by omega), if_pos (by omega), if_pos (by omega), rd_nat l i hi', w64s (by omega)]) ?_
      refine ev_some (impl_within_eq _ _ _) ?_
      by_cases c : lo ≤ l[i] ∧ l[i] ≤ hi
      · simp only [c, and_self, decide_true, if_true, Bool.true_and]
        exact ih (i + 1) (by omega)
      · simp only [c, decide_false, Bool.false_and, Bool.false_eq_true, if_false]
        exact Ev.now _
  exact key l.length 0 (by omega)

theorem laws_szShelf_ok (l : List Int) (c : Int) (h : l.length ≤ 1048576) : laws_szShelf.f l c 1048576 = some (1048576 - (l.length : Int)) := by
  simp only [laws_szShelf.f, laws_szIntS.f]
  rw [w64 (by omega) (by omega), if_neg (by omega)]
  simp only [Option.bind_some]
  rw [if_neg (by omega)]
theorem laws_szShelf_no (l : List Int) (c : Int) (h : ¬ l.length ≤ 1048576) (hm : l.length ≤ maxLen) : laws_szShelf.f l c 1048576 = some (-1) := by
  unfold maxLen at hm
  simp only [laws_szShelf.f, laws_szIntS.f]
  rw [w64 (by omega) (by omega), if_pos (by omega)]
  simp
theorem laws_toShelf_ev (l : List Int) (c : Int) (h : l.length ≤ 1048576) : Ev (fun k => laws_toShelf.f k l c) (l, c) := by
  simp only [laws_toShelf.f]
  exact ev_map (laws_toIntS_ev l h) rfl
theorem laws_eqShelf_ev (l : List Int) (c : Int) (h : l.length ≤ 1048576) : Ev (fun k => laws_eqShelf.f k l c l c) true := by
  simp only [laws_eqShelf.f]
  refine Ev.bind (laws_eqIntS_ev l l (by omega)) ?_
  simp only [decide_true, if_true]
  exact Ev.now _
def shOk (l : List Int) (c : Int) : Bool := decide (1 ≤ (l.length : Int) ∧ (l.length : Int) ≤ 8) && ((l.all fun x => decide (1 ≤ x ∧ x ≤ 100)) && decide (0 ≤ c ∧ c ≤ 10))
theorem shOk_len {l : List Int} {c : Int} (h : shOk l c = true) : 1 ≤ l.length ∧ l.length ≤ 8 := by
  simp only [shOk, Bool.and_eq_true, decide_eq_true_eq] at h
  omega
theorem shOk_all {l : List Int} {c : Int} (h : shOk l c = true) : ∀ x ∈ l, 1 ≤ x ∧ x ≤ 100 := by
  simp only [shOk, Bool.and_eq_true, List.all_eq_true, decide_eq_true_eq] at h
  exact h.2.1
theorem shOk_cover {l : List Int} {c : Int} (h : shOk l c = true) : 0 ≤ c ∧ c ≤ 10 := by
  simp only [shOk, Bool.and_eq_true, decide_eq_true_eq] at h
  exact h.2.2
theorem spec_shGood_ev (l : List Int) (c : Int) (hl : l.length ≤ 1048576) : Ev (fun k => spec_shGood.f k l c) (shOk l c) := by
  simp only [spec_shGood.f, shOk]
  refine ev_some (spec_l1In_eq _ _ _) ?_
  by_cases a : 1 ≤ (l.length : Int) ∧ (l.length : Int) ≤ 8
  · simp only [a, and_self, decide_true, if_true, Bool.true_and]
    refine Ev.bind (spec_l1All_ev 1 100 l (by omega)) ?_
    by_cases b : (l.all fun x => decide (1 ≤ x ∧ x ≤ 100)) = true
    · simp only [b, if_true, Bool.true_and]
      refine ev_some (spec_l1In_eq _ _ _) ?_
      exact Ev.now _
    · simp only [b, Bool.false_eq_true, if_false, Bool.false_and]
      exact Ev.now _
  · simp only [a, decide_false, Bool.false_and, Bool.false_eq_true, if_false]
    exact Ev.now _
theorem impl_IsShelf_ev (l : List Int) (c : Int) (hl : l.length ≤ 1048576) : Ev (fun k => impl_IsShelf.f k l c) (shOk l c) := by
  simp only [impl_IsShelf.f, shOk]
  refine ev_some (impl_within_eq _ _ _) ?_
  by_cases a : 1 ≤ (l.length : Int) ∧ (l.length : Int) ≤ 8
  · simp only [a, and_self, decide_true, if_true, Bool.true_and]
    refine Ev.bind (impl_allWithin_ev 1 100 l (by omega)) ?_
    by_cases b : (l.all fun x => decide (1 ≤ x ∧ x ≤ 100)) = true
    · simp only [b, if_true, Bool.true_and]
      refine ev_some (impl_within_eq _ _ _) ?_
      exact Ev.now _
    · simp only [b, Bool.false_eq_true, if_false, Bool.false_and]
      exact Ev.now _
  · simp only [a, decide_false, Bool.false_and, Bool.false_eq_true, if_false]
    exact Ev.now _

theorem impl_width_eq (l : List Int) (c : Int) (h : shOk l c = true) (i : Nat) (hi : i < l.length) : impl_Shelf_width.f l c (i : Int) = some (l[i] + 2 * c) := by
  have hc := shOk_cover h
  have hx := shOk_all h l[i] (List.getElem_mem hi)
  simp only [impl_Shelf_width.f]
  rw [if_pos (by omega), if_pos (by omega), rd_nat l i hi, w64 (x := 2 * c) (by omega) (by omega), w64 (by omega) (by omega)]

/-- On which shelf each volume stands. -/
def shv (c wide : Int) : List Int → Int → Int → Option (List Int)
  | [], _, _ => some []
  | x :: l, s, u => if x + 2 * c > wide then none else if u + (x + 2 * c) > wide then (shv c wide l (s + 1) (x + 2 * c)).map (fun r => (s + 1) :: r) else (shv c wide l s (u + (x + 2 * c))).map (fun r => s :: r)
def fin (out : List Int) : Option (List Int) → List Int × Bool
  | some r => (out ++ r, true)
  | none => ([], false)
theorem fin_cons (out : List Int) (a : Int) (o : Option (List Int)) : fin (out ++ [a]) o = fin out (o.map (fun r => a :: r)) := by
  cases o <;> simp [fin]
theorem shv_len (c wide : Int) : ∀ (l : List Int) (s u : Int) (r : List Int), shv c wide l s u = some r → r.length = l.length
  | [], s, u, r, h => by
    simp only [shv, Option.some.injEq] at h
    rw [← h]
  | x :: l, s, u, r, h => by
    simp only [shv] at h
    split at h
    · cases h
    · split at h
      · obtain ⟨q, h1, h2⟩ := Option.map_eq_some_iff.1 h
        rw [← h2, List.length_cons, List.length_cons, shv_len c wide l _ _ q h1]
      · obtain ⟨q, h1, h2⟩ := Option.map_eq_some_iff.1 h
        rw [← h2, List.length_cons, List.length_cons, shv_len c wide l _ _ q h1]
theorem shv_bd (c wide : Int) : ∀ (l : List Int) (s u : Int) (r : List Int), shv c wide l s u = some r → ∀ x ∈ r, s ≤ x ∧ x ≤ s + (l.length : Int)
  | [], s, u, r, h => by
    simp only [shv, Option.some.injEq] at h
    rw [← h]
    simp
  | x :: l, s, u, r, h => by
    simp only [shv] at h
    split at h
    · cases h
    · split at h
      · obtain ⟨q, h1, h2⟩ := Option.map_eq_some_iff.1 h
        have h3 := shv_bd c wide l _ _ q h1
        rw [← h2]
        intro y hy
        rw [List.length_cons]
        rcases List.mem_cons.1 hy with rfl | hy
        · omega
        · have := h3 y hy
          omega
      · obtain ⟨q, h1, h2⟩ := Option.map_eq_some_iff.1 h
        have h3 := shv_bd c wide l _ _ q h1
        rw [← h2]
        intro y hy
        rw [List.length_cons]
        rcases List.mem_cons.1 hy with rfl | hy
        · omega
        · have := h3 y hy
          omega
theorem spec_shOn_ev (l : List Int) (c : Int) (h : shOk l c = true) (wide : Int) (hw : 1 ≤ wide ∧ wide ≤ 2000) : Ev (fun k => spec_shOn.f k l c wide) (fin [] (shv c wide l 0 0)) := by
  have hc := shOk_cover h
  have hlen := shOk_len h
  have key : ∀ (d i : Nat) (out : List Int) (s u : Int), i + d = l.length → out.length ≤ i → 0 ≤ s → s ≤ (i : Int) → 0 ≤ u → u ≤ wide → Ev (fun k => spec_shOn.l0 k wide out s (wide - u) l (l.length : Int) (i : Int) l c) (fin out (shv c wide (l.drop i) s u)) := by
    intro d
    induction d with
    | zero =>
      intro i out s u hi ho hs0 hs hu0 hu
      rw [List.drop_eq_nil_of_le (by omega)]
      refine ev_succ ?_
      simp only [spec_shOn.l0]
      refine ev_else (by omega) ?_
      exact ev_ret (by simp [shv, fin])
    | succ d ih =>
      intro i out s u hi ho hs0 hs hu0 hu
      have h1 : i < l.length := by omega
      have hx := shOk_all h l[i] (List.getElem_mem h1)
      rw [List.drop_eq_getElem_cons h1]
      refine ev_succ ?_
      simp only [spec_shOn.l0, shv]
      refine ev_if (by omega) ?_
      refine ev_if (by omega) ?_
      refine ev_if (by omega) ?_
      rw [rd_nat l i h1, w64s (i := i) (by omega), w64 (x := 2 * c) (by omega) (by omega), w64 (x := l[i] + 2 * c) (by omega) (by omega)]
      by_cases a : l[i] + 2 * c > wide
      · refine ev_if a ?_
        rw [if_pos a]
        exact Ev.now _
      · refine ev_else a ?_
        rw [if_neg a]
        by_cases b : u + (l[i] + 2 * c) > wide
        · refine ev_if (by omega) ?_
          refine ev_if (by omega) ?_
          rw [if_pos b, w64 (x := s + 1) (by omega) (by omega), w64 (x := wide - (l[i] + 2 * c)) (by omega) (by omega), ← fin_cons]
          exact ih (i + 1) (out ++ [s + 1]) (s + 1) (l[i] + 2 * c) (by omega) (by rw [List.length_append]; simp only [List.length_cons, List.length_nil]; omega) (by omega) (by omega) (by omega) (by omega)
        · refine ev_else (by omega) ?_
          refine ev_if (by omega) ?_
          rw [if_neg b, w64 (x := wide - u - (l[i] + 2 * c)) (by omega) (by omega), ← fin_cons, show wide - u - (l[i] + 2 * c) = wide - (u + (l[i] + 2 * c)) by omega]
          exact ih (i + 1) (out ++ [s]) s (u + (l[i] + 2 * c)) (by omega) (by rw [List.length_append]; simp only [List.length_cons, List.length_nil]; omega) (by omega) (by omega) (by omega) (by omega)
  have := key l.length 0 [] 0 0 (by omega) (by simp) (by omega) (by omega) (by omega) (by omega)
  rw [Int.sub_zero] at this
  exact this
theorem impl_shelves_ev (l : List Int) (c : Int) (h : shOk l c = true) (wide : Int) (hw : 1 ≤ wide ∧ wide ≤ 2000) : Ev (fun k => impl_Shelf_shelves.f k l c wide) (fin [] (shv c wide l 0 0)) := by
  have hc := shOk_cover h
  have hlen := shOk_len h
  have key : ∀ (d i : Nat) (out : List Int) (s u : Int), i + d = l.length → out.length ≤ i → 0 ≤ s → s ≤ (i : Int) → 0 ≤ u → u ≤ wide → Ev (fun k => impl_Shelf_shelves.l0 k wide out s u (l.length : Int) (i : Int) l c) (fin out (shv c wide (l.drop i) s u)) := by
    intro d
    induction d with
    | zero =>
      intro i out s u hi ho hs0 hs hu0 hu
      rw [List.drop_eq_nil_of_le (by omega)]
      refine ev_succ ?_
      simp only [impl_Shelf_shelves.l0]
      refine ev_else (by omega) ?_
      exact ev_ret (by simp [shv, fin])
    | succ d ih =>
      intro i out s u hi ho hs0 hs hu0 hu
      have h1 : i < l.length := by omega
      have hx := shOk_all h l[i] (List.getElem_mem h1)
      rw [List.drop_eq_getElem_cons h1]
      refine ev_succ ?_
      simp only [impl_Shelf_shelves.l0, shv]
      refine ev_if (by omega) ?_
      rw [w64s (i := i) (by omega)]
      refine ev_some (impl_width_eq l c h i h1) ?_
      by_cases a : l[i] + 2 * c > wide
      · refine ev_if a ?_
        rw [if_pos a]
        exact Ev.now _
      · refine ev_else a ?_
        rw [if_neg a]
        refine ev_some (impl_width_eq l c h i h1) ?_
        rw [w64 (x := u + (l[i] + 2 * c)) (by omega) (by omega)]
        by_cases b : u + (l[i] + 2 * c) > wide
        · refine ev_if b ?_
          refine ev_if (by omega) ?_
          refine ev_some (impl_width_eq l c h i h1) ?_
          rw [if_pos b, w64 (x := s + 1) (by omega) (by omega), w64 (x := 0 + (l[i] + 2 * c)) (by omega) (by omega), ← fin_cons, Int.zero_add]
          exact ih (i + 1) (out ++ [s + 1]) (s + 1) (l[i] + 2 * c) (by omega) (by rw [List.length_append]; simp only [List.length_cons, List.length_nil]; omega) (by omega) (by omega) (by omega) (by omega)
        · refine ev_else b ?_
          refine ev_if (by omega) ?_
          refine ev_some (impl_width_eq l c h i h1) ?_
          rw [if_neg b, w64 (x := u + (l[i] + 2 * c)) (by omega) (by omega), ← fin_cons]
          exact ih (i + 1) (out ++ [s]) s (u + (l[i] + 2 * c)) (by omega) (by rw [List.length_append]; simp only [List.length_cons, List.length_nil]; omega) (by omega) (by omega) (by omega) (by omega)
  exact key l.length 0 [] 0 0 (by omega) (by simp) (by omega) (by omega) (by omega) (by omega)

theorem laws_markShelf_ev (l : List Int) (c : Int) (hl : l.length ≤ 1048576) : Ev (fun k => laws_markShelf.f k l c 1) (1 + (l.length : Int), marked 1 l.length) := by
  simp only [laws_markShelf.f]
  exact ev_map (laws_markIntS_ev l hl) rfl
theorem same (l : List Int) (c wide : Int) (hl : l.length ≤ 1048576) (hw : ∀ x ∈ l, (Lit.int .i64 x).wf = true) (hc : (Lit.int .i64 c).wf = true) (hv : (Lit.int .i64 wide).wf = true) : ∃ r, Ev (fun k => spec_ShelfOf.f k l c wide) r ∧ Ev (fun k => impl_ShelfOf.f k l c wide) r ∧ r.1.length ≤ 1048576 := by
  simp only [spec_ShelfOf.f, impl_ShelfOf.f, impl_isWide.f]
  by_cases a : shOk l c = true
  · by_cases e : 1 ≤ wide ∧ wide ≤ 2000
    · refine ⟨fin [] (shv c wide l 0 0), Ev.bind (spec_shGood_ev l c hl) ?_, Ev.bind (impl_IsShelf_ev l c hl) ?_, ?_⟩
      · simp only [a, if_true]
        refine ev_some (spec_l1In_eq _ _ _) ?_
        simp only [e, and_self, decide_true, if_true]
        exact ev_map (spec_shOn_ev l c a wide e) rfl
      · simp only [a, if_true]
        rw [impl_within_eq]
        simp only [e, and_self, decide_true, if_true, Option.bind_some]
        exact ev_map (impl_shelves_ev l c a wide e) rfl
      · cases z : shv c wide l 0 0 with
        | none => simp [fin]
        | some r =>
          have := shv_len c wide l 0 0 r z
          simp only [fin, List.nil_append]
          omega
    · refine ⟨([], false), Ev.bind (spec_shGood_ev l c hl) ?_, Ev.bind (impl_IsShelf_ev l c hl) ?_, by simp⟩
      · simp only [a, if_true]
        refine ev_some (spec_l1In_eq _ _ _) ?_
        simp only [e, decide_false, Bool.false_eq_true, if_false]
        exact Ev.now _
      · simp only [a, if_true]
        rw [impl_within_eq]
        simp only [e, decide_false, Bool.false_eq_true, if_false, Option.bind_some]
        exact Ev.now _
  · refine ⟨([], false), Ev.bind (spec_shGood_ev l c hl) ?_, Ev.bind (impl_IsShelf_ev l c hl) ?_, by simp⟩
    all_goals
      simp only [a, Bool.false_eq_true, if_false]
      exact Ev.now _
theorem FnExactShelfOf : ∀ (l : List Int) (c : Int) (wide : Int), l.length ≤ maxLen → (∀ x ∈ l, (Lit.int .i64 x).wf = true) → (Lit.int .i64 c).wf = true → (Lit.int .i64 wide).wf = true → ∃ k, laws_FnExactShelfOf.f k l c wide = some true := by
  intro l c wide hm hw hc wwide
  refine Ev.rounds (r := true) ?_
  by_cases hl : l.length ≤ 1048576
  · obtain ⟨r, h1, h2, hr⟩ := same l c wide hl hw hc wwide
    simp only [laws_FnExactShelfOf.f]
    refine ev_some (laws_szShelf_ok l c hl) ?_
    refine ev_else (by omega) ?_
    repeat (first
      | exact Ev.now _
      | (dsimp only)
      | (with_reducible refine Ev.bind h1 ?_)
      | (with_reducible refine Ev.bind h2 ?_)
      | (with_reducible refine Ev.bind (laws_toShelf_ev _ _ (by omega)) ?_)
      | (with_reducible refine Ev.bind (laws_eqShelf_ev _ _ (by omega)) ?_)
      | (with_reducible refine Ev.bind (laws_markShelf_ev _ _ (by omega)) ?_)
      | (with_reducible refine Ev.bind (laws_eqIntS_ev _ _ (by omega)) ?_)
      | (with_reducible refine Ev.bind (laws_markIntS_ev _ (by omega)) ?_)
      | (with_reducible refine Ev.bind (laws_heldIntS_ev _ (by omega)) ?_)
      | (simp only [decide_true, if_true, bne_self_eq_false, Bool.false_eq_true, if_false, neg_no])
      | (refine ev_succ ?_; simp only [laws_FnExactShelfOf.j0, laws_FnExactShelfOf.j1, laws_FnExactShelfOf.j2]))
  · simp only [laws_FnExactShelfOf.f]
    refine ev_some (laws_szShelf_no l c hl hm) ?_
    refine ev_if (by omega) ?_
    exact Ev.now _

end Go.Proofs.Ytiedpggapckieaa.Pure
