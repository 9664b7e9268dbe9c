/- The plain law behind FnExactFirstVolumes, in lists and numbers alone: the program's and the reference's numbers of chapters of volumes are one. No condition beyond the printed bounds. -/
import Derived.Test.YtmckakhdipjneaaXFnExactFirstVolumesx4
set_option linter.unusedVariables false
set_option linter.unusedSimpArgs false
namespace Go.Proofs.Ytmckakhdipjneaa.Pure
open Go.RowKit Go.Proofs.Ytmckakhdipjneaa.XFnExactFirstVolumes Go.Proofs.YtmckakhdipjneaaW.PrintWords Go.Proofs.YtmckakhdipjneaaW.PrintLast Go.Proofs.YtmckakhdipjneaaW.PrintMore
/-! ### Small words: rounds, reads, sums without a wrap. -/
theorem ev_some {α β : Type} {g : Option α} {f : Nat → α → Option β} {a : α} {r : β} (h : g = some a) (k : Ev (fun n => f n a) r) : Ev (fun n => g.bind (f n)) r := by
  subst h
  exact k
theorem ev_ret {α : Type} {r s : α} (h : r = s) : Ev (fun _ => some r) s := by
  subst h
  exact Ev.now r
theorem ev_map {α β : Type} {g : Nat → Option α} {f : α → β} {a : α} {r : β} (h : Ev g a) (e : f a = r) : Ev (fun n => (g n).bind fun t => some (f t)) r := Ev.bind h (ev_ret e)
theorem ev_eq {α : Type} {g f : Nat → Option α} {r : α} (h : g = f) (k : Ev f r) : Ev g r := by
  rw [h]
  exact k
theorem w64 {x : Int} (h0 : -9223372036854775808 ≤ x) (h1 : x ≤ 9223372036854775807) : wrap64 x = x := by
  unfold wrap64
  omega
theorem w64s {i : Nat} (h : i < 4611686018427387904) : wrap64 ((i : Int) + 1) = ((i + 1 : Nat) : Int) := by
  rw [w64 (by omega) (by omega)]
  rfl
theorem rd_nat (l : List Int) (i : Nat) (h : i < l.length) : rd l (i : Int) = l[i] := by
  unfold rd
  rw [Int.toNat_natCast, List.getD_eq_getElem?_getD, List.getElem?_eq_getElem h]
  rfl
theorem wf_i64 {x : Int} (h : (Lit.int .i64 x).wf = true) : -9223372036854775808 ≤ x ∧ x ≤ 9223372036854775807 := by
  simp only [Lit.wf, Bool.and_eq_true, decide_eq_true_eq] at h
  exact h
theorem ev_succ {α : Type} {g : Nat → Option α} {r : α} (h : Ev (fun k => g (k + 1)) r) : Ev g r := Ev.step (fun _ => rfl) h
theorem neg_no (n : Nat) : ¬ (1 + (n : Int) < 0) := by omega
theorem ev_if {α : Type} {c : Prop} [Decidable c] {g f : Nat → Option α} {r : α} (h : c) (k : Ev g r) : Ev (fun n => if c then g n else f n) r := Ev.congr (fun _ => if_pos h) k
theorem ev_else {α : Type} {c : Prop} [Decidable c] {g f : Nat → Option α} {r : α} (h : ¬ c) (k : Ev f r) : Ev (fun n => if c then g n else f n) r := Ev.congr (fun _ => if_neg h) k

theorem set_app {α : Type} (a b : List α) (x y : α) (n : Nat) (h : n = a.length) : (a ++ x :: b).set n y = a ++ y :: b := by
  subst h
  simp

theorem laws_toIntS_ev (l : List Int) (hl : l.length ≤ 1048576) : Ev (fun k => laws_toIntS.f k l) l := by
  have key : ∀ (d i : Nat), i + d = l.length → Ev (fun k => laws_toIntS.l0 k l (l.take i ++ List.replicate d 0) (i : Int)) l := by
    intro d
    induction d with
    | zero =>
      intro i h
      refine ev_succ ?_
      simp only [laws_toIntS.l0]
      refine ev_else (by omega) ?_
      refine ev_ret ?_
      rw [List.take_of_length_le (by omega)]
      simp
    | succ d ih =>
      intro i h
      have hi' : i < l.length := by omega
      refine Ev.step (f := fun k => laws_toIntS.l0 k l (l.take (i + 1) ++ List.replicate d 0) ((i + 1 : Nat) : Int)) (fun k => ?_) (ih (i + 1) (by omega))
      simp only [laws_toIntS.l0]
      rw [if_pos (by omega), if_pos (by omega), if_pos (by simp; omega), rd_nat l i hi', w64s (by omega), Int.toNat_natCast, List.replicate_succ, set_app _ _ _ _ _ (by simp; omega), List.take_succ_eq_append_getElem hi']
      simp only [List.append_assoc, List.cons_append, List.nil_append]
  refine ev_eq (f := fun k => laws_toIntS.l0 k l (l.take 0 ++ List.replicate l.length 0) ((0 : Nat) : Int)) ?_ (key l.length 0 (by omega))
  funext k
  simp only [laws_toIntS.f]
  rw [if_pos (by omega), if_pos (by omega)]
  simp

theorem laws_eqIntS_ev (a b : List Int) (hl : a.length ≤ 4611686018427387903) : Ev (fun k => laws_eqIntS.f k a b) (decide (a = b)) := by
  by_cases hlen : a.length = b.length
  · have key : ∀ (d i : Nat), i + d = a.length → Ev (fun k => laws_eqIntS.l0 k a b (i : Int)) (decide (a.drop i = b.drop i)) := by
      intro d
      induction d with
      | zero =>
        intro i h
        rw [List.drop_eq_nil_of_le (by omega), List.drop_eq_nil_of_le (by omega)]
        refine ev_succ ?_
        simp only [laws_eqIntS.l0]
        refine ev_else (by omega) ?_
        exact ev_ret (by simp)
      | succ d ih =>
        intro i h
        have h1 : i < a.length := by omega
        have h2 : i < b.length := by omega
        rw [List.drop_eq_getElem_cons h1, List.drop_eq_getElem_cons h2]
        refine Ev.step (f := fun k => if a[i] = b[i] then laws_eqIntS.l0 k a b ((i + 1 : Nat) : Int) else some false) (fun k => by simp only [laws_eqIntS.l0]; rw [if_pos (by omega), if_pos (by omega), if_pos (by omega), rd_nat a i h1, rd_nat b i h2, w64s (by omega)]) ?_
        by_cases c : a[i] = b[i]
        · simp only [c, if_true, List.cons.injEq, true_and]
          exact ih (i + 1) (by omega)
        · simp only [c, if_false, List.cons.injEq, false_and, decide_false]
          exact Ev.now _
    refine ev_eq (f := fun k => laws_eqIntS.l0 k a b ((0 : Nat) : Int)) ?_ (key a.length 0 (by omega))
    funext k
    simp only [laws_eqIntS.f]
    rw [if_pos (by omega)]
    rfl
  · refine ev_eq (f := fun _ => some false) ?_ (ev_ret (by simp; intro h; exact hlen (by rw [h])))
    funext k
    simp only [laws_eqIntS.f]
    rw [if_neg (by omega)]

def marked (m : Int) (n : Nat) : List Int := (List.range n).map fun (j : Nat) => m + (j : Int)
theorem marked_succ (m : Int) (n : Nat) : marked m (n + 1) = marked m n ++ [m + (n : Int)] := by
  unfold marked
  rw [List.range_succ]
  simp
theorem marked_len (m : Int) (n : Nat) : (marked m n).length = n := by simp [marked]
theorem laws_markIntS_ev (l : List Int) (hl : l.length ≤ 1048576) : Ev (fun k => laws_markIntS.f k l 1) (1 + (l.length : Int), marked 1 l.length) := by
  have key : ∀ (d i : Nat), i + d = l.length → Ev (fun k => laws_markIntS.l0 k (marked 1 i ++ l.drop i) (1 + (i : Int)) (i : Int)) (1 + (l.length : Int), marked 1 l.length) := by
    intro d
    induction d with
    | zero =>
      intro i h
      obtain rfl : i = l.length := by omega
      refine ev_succ ?_
      simp only [laws_markIntS.l0]
      refine ev_else (by simp [marked_len]) ?_
      refine ev_ret ?_
      simp
    | succ d ih =>
      intro i h
      have h1 : i < l.length := by omega
      refine Ev.step (f := fun k => laws_markIntS.l0 k (marked 1 (i + 1) ++ l.drop (i + 1)) (1 + ((i + 1 : Nat) : Int)) ((i + 1 : Nat) : Int)) (fun k => ?_) (ih (i + 1) (by omega))
      simp only [laws_markIntS.l0]
      rw [if_pos (by simp [marked_len]; omega), if_pos (by omega), w64s (by omega), Int.toNat_natCast, List.drop_eq_getElem_cons h1, set_app _ _ _ _ _ (by simp [marked_len]), w64 (by omega) (by omega), marked_succ]
      simp only [List.append_assoc, List.singleton_append, Int.natCast_succ, Int.add_assoc]
  refine ev_eq (f := fun k => laws_markIntS.l0 k (marked 1 0 ++ l.drop 0) (1 + ((0 : Nat) : Int)) ((0 : Nat) : Int)) ?_ (key l.length 0 (by omega))
  funext k
  simp only [laws_markIntS.f]
  simp [marked]
theorem laws_heldIntS_ev (n : Nat) (hl : n ≤ 1048576) : Ev (fun k => laws_heldIntS.f k (marked 1 n) 1) (1 + (n : Int)) := by
  have key : ∀ (d i : Nat), i + d = n → Ev (fun k => laws_heldIntS.l0 k (marked 1 n) (1 + (i : Int)) (i : Int)) (1 + (n : Int)) := by
    intro d
    induction d with
    | zero =>
      intro i h
      obtain rfl : i = n := by omega
      refine ev_succ ?_
      simp only [laws_heldIntS.l0]
      refine ev_else (by simp [marked_len]) ?_
      exact ev_ret rfl
    | succ d ih =>
      intro i h
      refine Ev.step (f := fun k => laws_heldIntS.l0 k (marked 1 n) (1 + ((i + 1 : Nat) : Int)) ((i + 1 : Nat) : Int)) (fun k => ?_) (ih (i + 1) (by omega))
      simp only [laws_heldIntS.l0]
      rw [if_pos (by simp [marked_len]; omega), if_pos (by omega), rd_nat _ i (by simp [marked_len]; omega), if_pos (by simp [marked]), w64s (by omega), w64 (by omega) (by omega)]
      simp only [Int.natCast_succ, Int.add_assoc]
  refine ev_eq (f := fun k => laws_heldIntS.l0 k (marked 1 n) (1 + ((0 : Nat) : Int)) ((0 : Nat) : Int)) ?_ (key n 0 (by omega))
  funext k
  simp only [laws_heldIntS.f]
  simp

theorem spec_l1In_eq (x lo hi : Int) : spec_l1In.f x lo hi = some (decide (lo ≤ x ∧ x ≤ hi)) := by
  unfold spec_l1In.f
  by_cases c : x ≥ lo
  · rw [if_pos c]
    congr 1
    simp only [c, true_and]
  · rw [if_neg c]
    congr 1
    exact (decide_eq_false (fun h => c h.1)).symm

theorem spec_l1All_ev (lo hi : Int) (l : List Int) (hl : l.length ≤ 4611686018427387903) : Ev (fun k => spec_l1All.f k l lo hi) (l.all fun x => decide (lo ≤ x ∧ x ≤ hi)) := by
  have key : ∀ (d i : Nat), i + d = l.length → Ev (fun k => spec_l1All.l0 k lo hi l (l.length : Int) (i : Int)) ((l.drop i).all fun x => decide (lo ≤ x ∧ x ≤ hi)) := by
    intro d
    induction d with
    | zero =>
      intro i h
      rw [List.drop_eq_nil_of_le (by omega)]
      exact Ev.step (f := fun _ => some true) (fun k => by simp only [spec_l1All.l0]; rw [if_neg (by omega)]) (Ev.now _)
    | succ d ih =>
      intro i h
      have hi' : i < l.length := by omega
      rw [List.drop_eq_getElem_cons hi', List.all_cons]
      refine Ev.step (f := fun k => (spec_l1In.f l[i] lo hi).bind fun t => if t = true then spec_l1All.l0 k lo hi l (l.length : Int) ((i + 1 : Nat) : Int) else some false) (fun k => by simp only [spec_l1All.l0]; rw [if_pos (by omega), if_pos (by omega), if_pos (by omega), rd_nat l i hi', w64s (by omega)]) ?_
      refine ev_some (spec_l1In_eq _ _ _) ?_
      by_cases c : lo ≤ l[i] ∧ l[i] ≤ hi
      · simp only [c, and_self, decide_true, if_true, Bool.true_and]
        exact ih (i + 1) (by omega)
      · simp only [c, decide_false, Bool.false_and, Bool.false_eq_true, if_false]
        exact Ev.now _
  exact key l.length 0 (by omega)

theorem impl_within_eq (x lo hi : Int) : impl_within.f x lo hi = some (decide (lo ≤ x ∧ x ≤ hi)) := by
  unfold impl_within.f
  by_cases c : x ≥ lo
  · rw [if_pos c]
    congr 1
    simp only [c, true_and]
  · rw [if_neg c]
    congr 1
    exact (decide_eq_false (fun h => c h.1)).symm

theorem impl_allWithin_ev (lo hi : Int) (l : List Int) (hl : l.length ≤ 4611686018427387903) : Ev (fun k => impl_allWithin.f k l lo hi) (l.all fun x => decide (lo ≤ x ∧ x ≤ hi)) := by
  have key : ∀ (d i : Nat), i + d = l.length → Ev (fun k => impl_allWithin.l0 k lo hi l (l.length : Int) (i : Int)) ((l.drop i).all fun x => decide (lo ≤ x ∧ x ≤ hi)) := by
    intro d
    induction d with
    | zero =>
      intro i h
      rw [List.drop_eq_nil_of_le (by omega)]
      exact Ev.step (f := fun _ => some true) (fun k => by simp only [impl_allWithin.l0]; rw [if_neg (by omega)]) (Ev.now _)
    | succ d ih =>
      intro i h
      have hi' : i < l.length := by omega
      rw [List.drop_eq_getElem_cons hi', List.all_cons]
      refine Ev.step (f := fun k => (impl_within.f l[i] lo hi).bind fun t => if t = true then impl_allWithin.l0 k lo hi l (l.length : Int) ((i + 1 : Nat) : Int) else some false) (fun k => by simp only [impl_allWithin.l0]; rw [if_pos (by omega), if_pos (by omega), if_pos (by omega), rd_nat l i hi', w64s (by omega)]) ?_
      refine ev_some (impl_within_eq _ _ _) ?_
      by_cases c : lo ≤ l[i] ∧ l[i] ≤ hi
      · simp only [c, and_self, decide_true, if_true, Bool.true_and]
        exact ih (i + 1) (by omega)
      · simp only [c, decide_false, Bool.false_and, Bool.false_eq_true, if_false]
        exact Ev.now _
  exact key l.length 0 (by omega)

def caOk (l : List Int) : Bool := decide (1 ≤ (l.length : Int) ∧ (l.length : Int) ≤ 12) && l.all fun x => decide (1 ≤ x ∧ x ≤ 120)
theorem caOk_len {l : List Int} (h : caOk l = true) : 1 ≤ l.length ∧ l.length ≤ 12 := by
  simp only [caOk, Bool.and_eq_true, decide_eq_true_eq] at h
  omega
theorem caOk_all {l : List Int} (h : caOk l = true) : ∀ x ∈ l, 1 ≤ x ∧ x ≤ 120 := by
  simp only [caOk, Bool.and_eq_true, List.all_eq_true, decide_eq_true_eq] at h
  exact h.2
theorem spec_caGood_ev (l : List Int) (hl : l.length ≤ 1048576) : Ev (fun k => spec_caGood.f k l) (caOk l) := by
  simp only [spec_caGood.f]
  refine ev_some (spec_l1In_eq _ _ _) ?_
  unfold caOk
  by_cases c : 1 ≤ (l.length : Int) ∧ (l.length : Int) ≤ 12
  · simp only [c, and_self, decide_true, if_true, Bool.true_and]
    exact ev_map (spec_l1All_ev 1 120 l (by omega)) rfl
  · simp only [c, decide_false, Bool.false_and, Bool.false_eq_true, if_false]
    exact Ev.now _
theorem impl_AreChapters_ev (l : List Int) (hl : l.length ≤ 1048576) : Ev (fun k => impl_AreChapters.f k l) (caOk l) := by
  simp only [impl_AreChapters.f]
  refine ev_some (impl_within_eq _ _ _) ?_
  unfold caOk
  by_cases c : 1 ≤ (l.length : Int) ∧ (l.length : Int) ≤ 12
  · simp only [c, and_self, decide_true, if_true, Bool.true_and]
    exact ev_map (impl_allWithin_ev 1 120 l (by omega)) rfl
  · simp only [c, decide_false, Bool.false_and, Bool.false_eq_true, if_false]
    exact Ev.now _

/-! ### Volumes: the greedy count, the least greatest volume, and that they fit. Lists of numbers alone. -/
def tot : List Int → Int
  | [] => 0
  | n :: l => n + tot l
theorem tot_app : ∀ (a b : List Int), tot (a ++ b) = tot a + tot b
  | [], b => by simp [tot]
  | n :: a, b => by simp only [List.cons_append, tot, tot_app a b]; omega
theorem tot_nonneg : ∀ (l : List Int), (∀ x ∈ l, 1 ≤ x) → (l.length : Int) ≤ tot l
  | [], _ => by simp [tot]
  | n :: l, h => by
    have h1 := tot_nonneg l (fun x hx => h x (List.mem_cons_of_mem _ hx))
    have h2 := h n List.mem_cons_self
    simp only [tot, List.length_cons]
    omega
theorem tot_mem : ∀ (l : List Int), (∀ x ∈ l, 1 ≤ x) → ∀ x ∈ l, x ≤ tot l
  | [], _, x, hx => by simp at hx
  | n :: l, h, x, hx => by
    have h1 := tot_nonneg l (fun x hx => h x (List.mem_cons_of_mem _ hx))
    have h2 := h n List.mem_cons_self
    simp only [tot]
    rcases List.mem_cons.1 hx with rfl | hx
    · omega
    · have := tot_mem l (fun x hx => h x (List.mem_cons_of_mem _ hx)) x hx
      omega
theorem tot_le : ∀ (l : List Int), (∀ x ∈ l, x ≤ 120) → tot l ≤ 120 * (l.length : Int)
  | [], _ => by simp [tot]
  | n :: l, h => by
    have h1 := tot_le l (fun x hx => h x (List.mem_cons_of_mem _ hx))
    have h2 := h n List.mem_cons_self
    simp only [tot, List.length_cons]
    omega
theorem tot_take (l : List Int) (hp : ∀ x ∈ l, 1 ≤ x) (j k : Nat) (h : j ≤ k) : tot (l.take j) ≤ tot (l.take k) := by
  have e : l.take j = (l.take k).take j := by rw [List.take_take, Nat.min_eq_left h]
  have f := tot_app ((l.take k).take j) ((l.take k).drop j)
  rw [List.take_append_drop] at f
  have g := tot_nonneg ((l.take k).drop j) (fun x hx => hp x (List.mem_of_mem_take (List.mem_of_mem_drop hx)))
  rw [e]
  omega
/-- How many volumes more, if r pages have room in the last one. -/
def gr (m : Int) : Int → List Int → Nat
  | _, [] => 0
  | r, n :: l => if r < n then 1 + gr m (m - n) l else gr m (r - n) l
theorem gr_len (m : Int) : ∀ (l : List Int) (r : Int), gr m r l ≤ l.length
  | [], _ => by simp [gr]
  | n :: l, r => by
    have h1 := gr_len m l (m - n)
    have h2 := gr_len m l (r - n)
    simp only [gr, List.length_cons]
    split <;> omega
theorem gr_both (m : Int) : ∀ (l : List Int), (∀ x ∈ l, 1 ≤ x) → (∀ r r', r' ≤ r → r ≤ m → gr m r l ≤ gr m r' l) ∧ (∀ s t, t ≤ m → s ≤ m → gr m s l ≤ 1 + gr m t l)
  | [], _ => by simp [gr]
  | n :: l, hp => by
    obtain ⟨hB, hC⟩ := gr_both m l (fun x hx => hp x (List.mem_cons_of_mem _ hx))
    have hn := hp n List.mem_cons_self
    refine ⟨fun r r' h1 h2 => ?_, fun s t h1 h2 => ?_⟩
    · simp only [gr]
      by_cases a : r < n
      · rw [if_pos a, if_pos (show r' < n by omega)]
        exact Nat.le_refl _
      · rw [if_neg a]
        by_cases b : r' < n
        · rw [if_pos b]
          exact hC _ _ (by omega) (by omega)
        · rw [if_neg b]
          exact hB _ _ (by omega) (by omega)
    · simp only [gr]
      by_cases a : s < n
      · rw [if_pos a]
        by_cases b : t < n
        · rw [if_pos b]
          omega
        · rw [if_neg b]
          have := hB (m - n) (t - n) (by omega) (by omega)
          omega
      · rw [if_neg a]
        by_cases b : t < n
        · rw [if_pos b]
          have := hC (s - n) (m - n) (by omega) (by omega)
          omega
        · rw [if_neg b]
          exact hC _ _ (by omega) (by omega)
theorem gr_app (m : Int) : ∀ (a b : List Int) (r : Int), (∀ x ∈ a, 1 ≤ x) → tot a ≤ r → gr m r (a ++ b) = gr m (r - tot a) b
  | [], b, r, _, _ => by simp [tot]
  | n :: a, b, r, hp, h => by
    have h1 := tot_nonneg a (fun x hx => hp x (List.mem_cons_of_mem _ hx))
    simp only [tot] at h
    simp only [List.cons_append, gr, tot]
    rw [if_neg (by omega), gr_app m a b (r - n) (fun x hx => hp x (List.mem_cons_of_mem _ hx)) (by omega)]
    rw [show r - n - tot a = r - (n + tot a) by omega]
theorem gr_zero (m : Int) (l : List Int) (r : Int) (hp : ∀ x ∈ l, 1 ≤ x) (h : tot l ≤ r) : gr m r l = 0 := by
  have := gr_app m l [] r hp h
  simpa [gr] using this
/-- The greedy block: as many as have room. -/
theorem gr_block (m : Int) : ∀ (l : List Int) (r : Int), 0 ≤ r → (∀ x ∈ l, 1 ≤ x) → (∃ k, k ≤ l.length ∧ tot (l.take k) ≤ r ∧ gr m r l = gr m 0 (l.drop k))
  | [], r, hr, _ => ⟨0, by simp, by simpa [tot] using hr, by simp [gr]⟩
  | n :: l, r, hr, hp => by
    have hn := hp n List.mem_cons_self
    by_cases c : r < n
    · refine ⟨0, by simp, by simpa [tot] using hr, ?_⟩
      simp only [List.drop_zero, gr]
      rw [if_pos c, if_pos (by omega)]
    · obtain ⟨k, h1, h2, h3⟩ := gr_block m l (r - n) (by omega) (fun x hx => hp x (List.mem_cons_of_mem _ hx))
      refine ⟨k + 1, by simp; omega, ?_, ?_⟩
      · simp only [List.take_succ_cons, tot]
        omega
      · simp only [List.drop_succ_cons, gr]
        rw [if_neg c]
        exact h3
/-- The first greedy block, which is not empty. -/
theorem gr_first (m : Int) (l : List Int) (hp : ∀ x ∈ l, 1 ≤ x) (hm : ∀ x ∈ l, x ≤ m) (h0 : 1 ≤ l.length) : ∃ k, 1 ≤ k ∧ k ≤ l.length ∧ tot (l.take k) ≤ m ∧ gr m 0 l = 1 + gr m 0 (l.drop k) := by
  cases l with
  | nil => simp at h0
  | cons n l =>
    have hn := hp n List.mem_cons_self
    have hnm := hm n List.mem_cons_self
    obtain ⟨k, h1, h2, h3⟩ := gr_block m l (m - n) (by omega) (fun x hx => hp x (List.mem_cons_of_mem _ hx))
    refine ⟨k + 1, by omega, by simp; omega, ?_, ?_⟩
    · simp only [List.take_succ_cons, tot]
      omega
    · simp only [List.drop_succ_cons, gr]
      rw [if_pos (by omega), h3]
theorem gr_pos (m : Int) (l : List Int) (hp : ∀ x ∈ l, 1 ≤ x) (h0 : 1 ≤ l.length) : 1 ≤ gr m 0 l := by
  cases l with
  | nil => simp at h0
  | cons n l =>
    have hn := hp n List.mem_cons_self
    simp only [gr]
    rw [if_pos (by omega)]
    omega
/-- c volumes of at most m pages are enough. -/
def Fit (c : Nat) (l : List Int) (m : Int) : Prop := (∀ x ∈ l, x ≤ m) ∧ gr m 0 l ≤ c
theorem fit_one (l : List Int) (m : Int) (hp : ∀ x ∈ l, 1 ≤ x) (h0 : 1 ≤ l.length) : Fit 1 l m ↔ tot l ≤ m := by
  constructor
  · rintro ⟨h1, h2⟩
    obtain ⟨k, a, b, c, d⟩ := gr_first m l hp h1 h0
    by_cases e : k = l.length
    · subst e
      rwa [List.take_of_length_le (Nat.le_refl _)] at c
    · have := gr_pos m (l.drop k) (fun x hx => hp x (List.mem_of_mem_drop hx)) (by simp; omega)
      omega
  · intro h
    refine ⟨fun x hx => Int.le_trans (tot_mem l hp x hx) h, ?_⟩
    cases l with
    | nil => simp at h0
    | cons n l =>
      have hn := hp n List.mem_cons_self
      simp only [tot] at h
      simp only [gr]
      rw [if_pos (by omega), gr_zero m l (m - n) (fun x hx => hp x (List.mem_cons_of_mem _ hx)) (by omega)]
      exact Nat.le_refl _
theorem fit_of_cut (c : Nat) (l : List Int) (m : Int) (hp : ∀ x ∈ l, 1 ≤ x) (k : Nat) (hk : 1 ≤ k) (hkl : k ≤ l.length) (h1 : tot (l.take k) ≤ m) (h2 : Fit c (l.drop k) m) : Fit (c + 1) l m := by
  have hpt : ∀ x ∈ l.take k, 1 ≤ x := fun x hx => hp x (List.mem_of_mem_take hx)
  have hpd : ∀ x ∈ l.drop k, 1 ≤ x := fun x hx => hp x (List.mem_of_mem_drop hx)
  refine ⟨fun x hx => ?_, ?_⟩
  · rw [← List.take_append_drop k l] at hx
    rcases List.mem_append.1 hx with hx | hx
    · exact Int.le_trans (tot_mem _ hpt x hx) h1
    · exact h2.1 x hx
  · have e : gr m 0 l = gr m 0 (l.take k ++ l.drop k) := by rw [List.take_append_drop]
    have hl : (l.take k).length = k := by simp; omega
    generalize ha : l.take k = a at *
    generalize hb : l.drop k = b at *
    cases a with
    | nil => simp at hl; omega
    | cons n a =>
      have hn := hpt n List.mem_cons_self
      simp only [tot] at h1
      have h3 := tot_nonneg a (fun x hx => hpt x (List.mem_cons_of_mem _ hx))
      rw [e]
      simp only [List.cons_append, gr]
      rw [if_pos (by omega), gr_app m a b (m - n) (fun x hx => hpt x (List.mem_cons_of_mem _ hx)) (by omega)]
      have h4 := (gr_both m b hpd).1 (m - n - tot a) 0 (by omega) (by omega)
      have h5 := h2.2
      omega
theorem cut_of_fit (c : Nat) (l : List Int) (m : Int) (hp : ∀ x ∈ l, 1 ≤ x) (hc : c + 1 ≤ l.length) (hc1 : 1 ≤ c) (h : Fit (c + 1) l m) : ∃ k, 1 ≤ k ∧ k ≤ l.length - c ∧ tot (l.take k) ≤ m ∧ Fit c (l.drop k) m := by
  obtain ⟨k, a, b, d, e⟩ := gr_first m l hp h.1 (by omega)
  by_cases g : k ≤ l.length - c
  · refine ⟨k, a, g, d, fun x hx => h.1 x (List.mem_of_mem_drop hx), ?_⟩
    have := h.2
    omega
  · refine ⟨l.length - c, by omega, Nat.le_refl _, ?_, fun x hx => h.1 x (List.mem_of_mem_drop hx), ?_⟩
    · exact Int.le_trans (tot_take l hp _ _ (by omega)) d
    · have := gr_len m (l.drop (l.length - c)) 0
      rw [List.length_drop] at this
      omega
/-- The least of b and f k, f (k + 1), .. (d of them). -/
def lmin (f : Nat → Int) : Nat → Nat → Int → Int
  | 0, _, b => b
  | d + 1, k, b => lmin f d (k + 1) (mn b (f k))
theorem mn_le (a b m : Int) : mn a b ≤ m ↔ a ≤ m ∨ b ≤ m := by
  unfold mn
  split <;> omega
theorem mx_le (a b m : Int) : mx a b ≤ m ↔ a ≤ m ∧ b ≤ m := by
  unfold mx
  split <;> omega
theorem lmin_le (f : Nat → Int) (m : Int) : ∀ (d k : Nat) (b : Int), lmin f d k b ≤ m ↔ b ≤ m ∨ ∃ j, k ≤ j ∧ j < k + d ∧ f j ≤ m
  | 0, k, b => by
    simp only [lmin]
    refine ⟨.inl, fun h => ?_⟩
    rcases h with h | ⟨j, h1, h2, _⟩
    · exact h
    · omega
  | d + 1, k, b => by
    simp only [lmin]
    rw [lmin_le f m d (k + 1), mn_le]
    constructor
    · rintro ((h | h) | ⟨j, h1, h2, h3⟩)
      · exact .inl h
      · exact .inr ⟨k, by omega, by omega, h⟩
      · exact .inr ⟨j, by omega, by omega, h3⟩
    · rintro (h | ⟨j, h1, h2, h3⟩)
      · exact .inl (.inl h)
      · by_cases e : j = k
        · subst e
          exact .inl (.inr h3)
        · exact .inr ⟨j, by omega, by omega, h3⟩
/-- The least number of pages of the greatest of c + 1 volumes. -/
def lv : Nat → List Int → Int
  | 0, l => tot l
  | c + 1, l => lmin (fun k => mx (tot (l.take k)) (lv c (l.drop k))) (l.length - (c + 1)) 1 (tot l)
theorem lv_le (m : Int) : ∀ (c : Nat) (l : List Int), (∀ x ∈ l, 1 ≤ x) → c + 1 ≤ l.length → (lv c l ≤ m ↔ Fit (c + 1) l m)
  | 0, l, hp, h => (fit_one l m hp h).symm
  | c + 1, l, hp, h => by
    simp only [lv]
    rw [lmin_le]
    constructor
    · rintro (h1 | ⟨k, h1, h2, h3⟩)
      · have := (fit_one l m hp (by omega)).2 h1
        exact ⟨this.1, by have := this.2; omega⟩
      · rw [mx_le] at h3
        refine fit_of_cut (c + 1) l m hp k h1 (by omega) h3.1 ?_
        exact (lv_le m c (l.drop k) (fun x hx => hp x (List.mem_of_mem_drop hx)) (by rw [List.length_drop]; omega)).1 h3.2
    · intro h1
      obtain ⟨k, a, b, d, e⟩ := cut_of_fit (c + 1) l m hp h (by omega) h1
      refine .inr ⟨k, a, by omega, ?_⟩
      rw [mx_le]
      exact ⟨d, (lv_le m c (l.drop k) (fun x hx => hp x (List.mem_of_mem_drop hx)) (by rw [List.length_drop]; omega)).2 e⟩
theorem lv_bd (c : Nat) (l : List Int) (hp : ∀ x ∈ l, 1 ≤ x ∧ x ≤ 120) (h : c + 1 ≤ l.length) : 1 ≤ lv c l ∧ lv c l ≤ tot l := by
  have hp1 : ∀ x ∈ l, 1 ≤ x := fun x hx => (hp x hx).1
  constructor
  · have h1 := (lv_le (lv c l) c l hp1 h).1 (Int.le_refl _)
    have h2 := h1.1 (l[0]'(by omega)) (List.getElem_mem _)
    have h3 := hp1 (l[0]'(by omega)) (List.getElem_mem _)
    omega
  · have h1 := (fit_one l (tot l) hp1 (by omega)).2 (Int.le_refl _)
    exact (lv_le (tot l) c l hp1 h).2 ⟨h1.1, by have := h1.2; omega⟩
/-- One step of the first volumes: the number of chapters at which both sides stop. -/
theorem step_exists (m : Int) (more : Nat) (l : List Int) (hp : ∀ x ∈ l, 1 ≤ x) (hmore : 1 ≤ more) (hl : more + 1 ≤ l.length) (hf : Fit (more + 1) l m) :
    ∃ n, 1 ≤ n ∧ n + more ≤ l.length ∧ tot (l.take n) ≤ m ∧ Fit more (l.drop n) m ∧ ∀ j, 1 ≤ j → j < n → more < gr m 0 (l.drop j) := by
  have find : ∀ d j, 1 ≤ j → j + d = l.length → (∀ i, 1 ≤ i → i < j → more < gr m 0 (l.drop i)) → ∃ n, j ≤ n ∧ n ≤ l.length ∧ gr m 0 (l.drop n) ≤ more ∧ ∀ i, 1 ≤ i → i < n → more < gr m 0 (l.drop i) := by
    intro d
    induction d with
    | zero =>
      intro j h1 h2 h3
      refine ⟨j, Nat.le_refl _, by omega, ?_, h3⟩
      rw [List.drop_eq_nil_of_le (by omega)]
      simp [gr]
    | succ d ih =>
      intro j h1 h2 h3
      by_cases c : gr m 0 (l.drop j) ≤ more
      · exact ⟨j, Nat.le_refl _, by omega, c, h3⟩
      · obtain ⟨n, a, b, e, f⟩ := ih (j + 1) (by omega) (by omega) (fun i hi hij => by
          by_cases g : i = j
          · subst g
            omega
          · exact h3 i hi (by omega))
        exact ⟨n, by omega, b, e, f⟩
  obtain ⟨n, h1, h2, h3, h4⟩ := find (l.length - 1) 1 (by omega) (by omega) (fun i hi hij => by omega)
  have hn : n + more ≤ l.length := by
    by_cases c : n = 1
    · omega
    · have h5 := h4 (n - 1) (by omega) (by omega)
      have h6 := gr_len m (l.drop (n - 1)) 0
      rw [List.length_drop] at h6
      omega
  refine ⟨n, h1, hn, ?_, ⟨fun x hx => hf.1 x (List.mem_of_mem_drop hx), h3⟩, h4⟩
  obtain ⟨k, a, b, d, e⟩ := gr_first m l hp hf.1 (by omega)
  have hnk : n ≤ k := by
    by_cases c : n ≤ k
    · exact c
    · have h5 := h4 k a (by omega)
      have h6 := hf.2
      omega
  exact Int.le_trans (tot_take l hp n k hnk) d

theorem spec_caVolumes_ev (l : List Int) (m : Int) (hl : l.length ≤ 12) (hp : ∀ x ∈ l, 1 ≤ x ∧ x ≤ 120) (hm : 0 ≤ m ∧ m ≤ 100000) : Ev (fun k => spec_caVolumes.f k l m) (if ∀ x ∈ l, x ≤ m then ((gr m 0 l : Nat) : Int) else 0) := by
  have key : ∀ (d i v : Nat) (r : Int), i + d = l.length → v ≤ i → 0 ≤ r → r ≤ m → Ev (fun k => spec_caVolumes.l0 k m (v : Int) r l (l.length : Int) (i : Int)) (if ∀ x ∈ l.drop i, x ≤ m then ((v + gr m r (l.drop i) : Nat) : Int) else 0) := by
    intro d
    induction d with
    | zero =>
      intro i v r h hv hr0 hr
      rw [List.drop_eq_nil_of_le (by omega)]
      refine ev_succ ?_
      simp only [spec_caVolumes.l0]
      refine ev_else (by omega) ?_
      exact ev_ret (by simp [gr])
    | succ d ih =>
      intro i v r h hv hr0 hr
      have h1 : i < l.length := by omega
      have hx := hp l[i] (List.getElem_mem h1)
      rw [List.drop_eq_getElem_cons h1]
      refine ev_succ ?_
      simp only [spec_caVolumes.l0]
      refine ev_if (by omega) ?_
      refine ev_if (by omega) ?_
      refine ev_if (by omega) ?_
      rw [rd_nat l i h1]
      by_cases a : l[i] > m
      · refine ev_if a ?_
        rw [if_neg (fun hh => by have := hh l[i] List.mem_cons_self; omega)]
        exact Ev.now _
      · refine ev_else a ?_
        have e : (∀ x ∈ l[i] :: l.drop (i + 1), x ≤ m) ↔ ∀ x ∈ l.drop (i + 1), x ≤ m := by
          simp only [List.mem_cons, forall_eq_or_imp]
          exact ⟨fun hh => hh.2, fun hh => ⟨by omega, hh⟩⟩
        simp only [e, gr]
        by_cases b : l[i] > r
        · refine ev_if b ?_
          rw [if_pos (show r < l[i] by omega)]
          rw [w64s (by omega), w64s (by omega), w64 (by omega) (by omega)]
          have := ih (i + 1) (v + 1) (m - l[i]) (by omega) (by omega) (by omega) (by omega)
          rw [show v + (1 + gr m (m - l[i]) (l.drop (i + 1))) = v + 1 + gr m (m - l[i]) (l.drop (i + 1)) by omega]
          exact this
        · refine ev_else b ?_
          rw [if_neg (show ¬ r < l[i] by omega)]
          rw [w64s (by omega), w64 (by omega) (by omega)]
          exact ih (i + 1) v (r - l[i]) (by omega) (by omega) (by omega) (by omega)
  have := key l.length 0 0 0 (by omega) (by omega) (by omega) hm.1
  simp only [List.drop_zero, Nat.zero_add] at this
  exact this

theorem spec_caLeast_ev (c : Nat) (l : List Int) (hl : l.length ≤ 12) (hp : ∀ x ∈ l, 1 ≤ x ∧ x ≤ 120) (hc : c + 1 ≤ l.length) : Ev (fun k => spec_caLeast.f k l ((c + 1 : Nat) : Int)) (lv c l) := by
  have hp1 : ∀ x ∈ l, 1 ≤ x := fun x hx => (hp x hx).1
  have hb := lv_bd c l hp hc
  have ht := tot_le l (fun x hx => (hp x hx).2)
  have key : ∀ (d : Nat) (m : Int), lv c l - m = d → 1 ≤ m → Ev (fun k => spec_caLeast.l0 k l ((c + 1 : Nat) : Int) m (if ∀ x ∈ l, x ≤ m then ((gr m 0 l : Nat) : Int) else 0)) (lv c l) := by
    intro d
    induction d with
    | zero =>
      intro m h h1
      have hf := (lv_le m c l hp1 hc).1 (by omega)
      have hg := gr_pos m l hp1 (by omega)
      have hf2 := hf.2
      rw [if_pos hf.1]
      refine Ev.step (fun k => by simp only [spec_caLeast.l0]; rw [if_neg (by omega), if_neg (by omega)]) (ev_ret (by omega))
    | succ d ih =>
      intro m h h1
      have hf : ¬ Fit (c + 1) l m := fun hh => by have := (lv_le m c l hp1 hc).2 hh; omega
      have hn := Ev.bind (f := fun k t => spec_caLeast.l0 k l ((c + 1 : Nat) : Int) (m + 1) t) (spec_caVolumes_ev l (m + 1) hl hp (by omega)) (ih (m + 1) (by omega) (by omega))
      refine ev_succ ?_
      simp only [spec_caLeast.l0]
      rw [w64 (by omega) (by omega)]
      by_cases a : ∀ x ∈ l, x ≤ m
      · have hg : ¬ gr m 0 l ≤ c + 1 := fun hh => hf ⟨a, hh⟩
        rw [if_pos a]
        refine ev_else (by omega) ?_
        refine ev_if (by omega) ?_
        exact hn
      · rw [if_neg a]
        refine ev_if rfl ?_
        exact hn
  simp only [spec_caLeast.f]
  refine Ev.bind (spec_caVolumes_ev l 1 hl hp (by omega)) ?_
  exact key (lv c l - 1).toNat 1 (by omega) (by omega)
theorem impl_total_ev (l : List Int) (hl : l.length ≤ 12) (hp : ∀ x ∈ l, 1 ≤ x ∧ x ≤ 120) : Ev (fun k => impl_total.f k l) (tot l) := by
  have key : ∀ (d i : Nat) (s : Int), i + d = l.length → 0 ≤ s → s ≤ 120 * (i : Int) → Ev (fun k => impl_total.l0 k s l (l.length : Int) (i : Int)) (s + tot (l.drop i)) := by
    intro d
    induction d with
    | zero =>
      intro i s h h0 h1
      rw [List.drop_eq_nil_of_le (by omega)]
      refine ev_succ ?_
      simp only [impl_total.l0]
      refine ev_else (by omega) ?_
      exact ev_ret (by simp [tot])
    | succ d ih =>
      intro i s h h0 h2
      have h1 : i < l.length := by omega
      have hx := hp l[i] (List.getElem_mem h1)
      rw [List.drop_eq_getElem_cons h1]
      refine ev_succ ?_
      simp only [impl_total.l0]
      refine ev_if (by omega) ?_
      refine ev_if (by omega) ?_
      refine ev_if (by omega) ?_
      rw [rd_nat l i h1, w64s (by omega), w64 (by omega) (by omega)]
      have := ih (i + 1) (s + l[i]) (by omega) (by omega) (by omega)
      simp only [tot]
      rw [show s + (l[i] + tot (l.drop (i + 1))) = s + l[i] + tot (l.drop (i + 1)) by omega]
      exact this
  have := key l.length 0 0 (by omega) (by omega) (by omega)
  simp only [List.drop_zero, Int.zero_add] at this
  exact this
theorem impl_leastVolume_ev : ∀ (c : Nat) (l : List Int), l.length ≤ 12 → (∀ x ∈ l, 1 ≤ x ∧ x ≤ 120) → c + 1 ≤ l.length → Ev (fun k => impl_leastVolume.f k l ((c + 1 : Nat) : Int)) (lv c l)
  | 0, l, hl, hp, hc => by
    refine ev_succ ?_
    simp only [impl_leastVolume.f]
    refine ev_if rfl ?_
    exact ev_map (impl_total_ev l hl hp) rfl
  | c + 1, l, hl, hp, hc => by
    have IH := impl_leastVolume_ev c
    have key : ∀ (d j : Nat) (b : Int), j + d = l.length - c → 1 ≤ j → Ev (fun k => impl_leastVolume.l0 k l ((c + 1 + 1 : Nat) : Int) b (j : Int)) (lmin (fun k => mx (tot (l.take k)) (lv c (l.drop k))) d j b) := by
      intro d
      induction d with
      | zero =>
        intro j b h h1
        refine ev_succ ?_
        simp only [impl_leastVolume.l0, lmin, Option.bind_some]
        rw [w64 (x := (l.length : Int) - ((c + 1 + 1 : Nat) : Int)) (by omega) (by omega), w64 (by omega) (by omega)]
        refine ev_else (by omega) ?_
        exact Ev.now _
      | succ d ih =>
        intro j b h h1
        refine ev_succ ?_
        simp only [impl_leastVolume.l0, lmin, Option.bind_some]
        rw [w64 (x := (l.length : Int) - ((c + 1 + 1 : Nat) : Int)) (by omega) (by omega), w64 (x := (l.length : Int) - ((c + 1 + 1 : Nat) : Int) + 1) (by omega) (by omega)]
        refine ev_if (by omega) ?_
        refine ev_if (by omega) ?_
        refine ev_if (by omega) ?_
        rw [w64 (x := ((c + 1 + 1 : Nat) : Int) - 1) (by omega) (by omega), w64s (by omega), Int.toNat_natCast, show ((c + 1 + 1 : Nat) : Int) - 1 = ((c + 1 : Nat) : Int) by omega]
        refine Ev.bind (impl_total_ev (l.take j) (by simp; omega) (fun x hx => hp x (List.mem_of_mem_take hx))) ?_
        refine Ev.bind (IH (l.drop j) (by simp; omega) (fun x hx => hp x (List.mem_of_mem_drop hx)) (by rw [List.length_drop]; omega)) ?_
        exact ih (j + 1) _ (by omega) (by omega)
    refine ev_succ ?_
    simp only [impl_leastVolume.f]
    refine ev_else (by omega) ?_
    refine Ev.bind (impl_total_ev l hl hp) ?_
    simp only [lv]
    exact key (l.length - (c + 1)) 1 (tot l) (by omega) (by omega)
theorem spec_l1Least_eq (a b : Int) : spec_l1Least.f a b = some (mn b a) := by
  unfold spec_l1Least.f mn
  split <;> rfl
theorem mn_comm5 (n : Nat) : mn (n : Int) 5 = mn 5 (n : Int) := by
  unfold mn
  split <;> split <;> omega
def askOk (l : List Int) (v : Int) : Bool := caOk l && decide (1 ≤ v ∧ v ≤ mn 5 (l.length : Int))
theorem spec_caAsked_ev (l : List Int) (v : Int) (hl : l.length ≤ 1048576) : Ev (fun k => spec_caAsked.f k l v) (askOk l v) := by
  simp only [spec_caAsked.f, askOk]
  refine Ev.bind (spec_caGood_ev l hl) ?_
  by_cases c : caOk l = true
  · simp only [c, if_true, Bool.true_and]
    refine ev_some (spec_l1Least_eq _ _) ?_
    refine ev_some (spec_l1In_eq _ _ _) ?_
    rw [mn_comm5]
    exact Ev.now _
  · simp only [c, Bool.false_eq_true, if_false, Bool.false_and]
    exact Ev.now _
theorem impl_areVolumes_ev (l : List Int) (v : Int) (hl : l.length ≤ 1048576) : Ev (fun k => impl_areVolumes.f k l v) (askOk l v) := by
  simp only [impl_areVolumes.f, askOk]
  refine Ev.bind (impl_AreChapters_ev l hl) ?_
  by_cases c : caOk l = true
  · simp only [c, if_true, Bool.true_and]
    refine ev_some (impl_within_eq _ _ _) ?_
    exact Ev.now _
  · simp only [c, Bool.false_eq_true, if_false, Bool.false_and]
    exact Ev.now _
theorem askOk_nat {l : List Int} {v : Int} (h : askOk l v = true) : caOk l = true ∧ ∃ c : Nat, v = ((c + 1 : Nat) : Int) ∧ c + 1 ≤ l.length ∧ c + 1 ≤ 5 := by
  simp only [askOk, Bool.and_eq_true, decide_eq_true_eq] at h
  obtain ⟨h1, h2, h3⟩ := h
  refine ⟨h1, (v - 1).toNat, ?_⟩
  have : mn 5 (l.length : Int) ≤ 5 ∧ mn 5 (l.length : Int) ≤ (l.length : Int) := by
    unfold mn
    split <;> omega
  omega

/-- Both walks through the volumes come to one list. -/
theorem walk (m : Int) (hm : 0 ≤ m ∧ m ≤ 100000) : ∀ (c : Nat) (l : List Int) (out : List Int), l.length ≤ 12 → (∀ x ∈ l, 1 ≤ x ∧ x ≤ 120) → c + 1 ≤ l.length → Fit (c + 1) l m → out.length + c ≤ 100 →
    ∃ r : List Int, Ev (fun k => spec_FirstVolumes.l0 k l ((c + 1 : Nat) : Int) m out) (r, true) ∧ Ev (fun k => impl_FirstVolumes.l0 k m out l ((c : Nat) : Int)) (r, true) ∧ r.length = out.length + c + 1
  | 0, l, out, hl, hp, hc, hf, ho => by
    refine ⟨out ++ [(l.length : Int)], ?_, ?_, by simp⟩
    · refine ev_succ ?_
      simp only [spec_FirstVolumes.l0]
      refine ev_if (by omega) ?_
      have key : ∀ (d j : Nat), j + d = l.length → 1 ≤ j → Ev (fun k => spec_FirstVolumes.l1 k l ((0 + 1 : Nat) : Int) m out (j : Int)) (out ++ [(l.length : Int)], true) := by
        intro d
        induction d with
        | zero =>
          intro j h h1
          obtain rfl : j = l.length := by omega
          refine ev_succ ?_
          simp only [spec_FirstVolumes.l1, Option.bind_some]
          refine ev_if (by omega) ?_
          refine ev_else (by omega) ?_
          refine ev_if (by omega) ?_
          refine ev_if (by omega) ?_
          rw [Int.toNat_natCast, List.drop_eq_nil_of_le (Nat.le_refl _)]
          have hz : Ev (fun k => spec_caVolumes.f k [] m) 0 := by simpa [gr] using spec_caVolumes_ev [] m (by simp) (by simp) hm
          refine Ev.bind hz ?_
          rw [w64 (by omega) (by omega)]
          refine ev_else (by omega) ?_
          refine ev_if (by omega) ?_
          refine ev_succ ?_
          simp only [spec_FirstVolumes.l0]
          refine ev_else (by omega) ?_
          exact Ev.now _
        | succ d ih =>
          intro j h h1
          refine ev_succ ?_
          simp only [spec_FirstVolumes.l1, Option.bind_some]
          refine ev_if (by omega) ?_
          refine ev_if (by omega) ?_
          rw [w64s (by omega)]
          exact ih (j + 1) (by omega) (by omega)
      exact key (l.length - 1) 1 (by omega) (by omega)
    · refine ev_succ ?_
      simp only [impl_FirstVolumes.l0]
      refine ev_else (by omega) ?_
      refine ev_if (by omega) ?_
      exact Ev.now _
  | c + 1, l, out, hl, hp, hc, hf, ho => by
    have hp1 : ∀ x ∈ l, 1 ≤ x := fun x hx => (hp x hx).1
    have hpd : ∀ j, ∀ x ∈ l.drop j, 1 ≤ x ∧ x ≤ 120 := fun j x hx => hp x (List.mem_of_mem_drop hx)
    have hpt : ∀ j, ∀ x ∈ l.take j, 1 ≤ x ∧ x ≤ 120 := fun j x hx => hp x (List.mem_of_mem_take hx)
    have hmd : ∀ j, ∀ x ∈ l.drop j, x ≤ m := fun j x hx => hf.1 x (List.mem_of_mem_drop hx)
    obtain ⟨n, n1, n2, n3, n4, n5⟩ := step_exists m (c + 1) l hp1 (by omega) hc hf
    obtain ⟨r, r1, r2, r3⟩ := walk m hm c (l.drop n) (out ++ [(n : Int)]) (by simp; omega) (hpd n) (by rw [List.length_drop]; omega) n4 (by simp; omega)
    refine ⟨r, ?_, ?_, by rw [r3]; simp; omega⟩
    · refine ev_succ ?_
      simp only [spec_FirstVolumes.l0]
      refine ev_if (by omega) ?_
      have key : ∀ (d j : Nat), j + d = n → 1 ≤ j → Ev (fun k => spec_FirstVolumes.l1 k l ((c + 1 + 1 : Nat) : Int) m out (j : Int)) (r, true) := by
        intro d
        induction d with
        | zero =>
          intro j h h1
          obtain rfl : j = n := by omega
          refine ev_succ ?_
          simp only [spec_FirstVolumes.l1, Option.bind_some]
          refine ev_else (by omega) ?_
          refine ev_if (by omega) ?_
          refine ev_if (by omega) ?_
          rw [Int.toNat_natCast]
          refine Ev.bind (spec_caVolumes_ev (l.drop j) m (by simp; omega) (hpd j) hm) ?_
          have h4 := n4.2
          rw [if_pos (hmd j), w64 (by omega) (by omega)]
          refine ev_else (by omega) ?_
          refine ev_if (by omega) ?_
          rw [show ((c + 1 + 1 : Nat) : Int) - 1 = ((c + 1 : Nat) : Int) by omega]
          exact r1
        | succ d ih =>
          intro j h h1
          refine ev_succ ?_
          simp only [spec_FirstVolumes.l1, Option.bind_some]
          refine ev_else (by omega) ?_
          refine ev_if (by omega) ?_
          refine ev_if (by omega) ?_
          rw [Int.toNat_natCast]
          refine Ev.bind (spec_caVolumes_ev (l.drop j) m (by simp; omega) (hpd j) hm) ?_
          have h4 := n5 j h1 (by omega)
          rw [if_pos (hmd j), w64 (x := ((c + 1 + 1 : Nat) : Int) - 1) (by omega) (by omega)]
          refine ev_if (by omega) ?_
          rw [w64s (by omega)]
          exact ih (j + 1) (by omega) (by omega)
      exact key (n - 1) 1 (by omega) (by omega)
    · refine ev_succ ?_
      simp only [impl_FirstVolumes.l0]
      refine ev_if (by omega) ?_
      have key : ∀ (d j : Nat), j + d = n → 1 ≤ j → Ev (fun k => impl_FirstVolumes.l1 k m out l ((c + 1 : Nat) : Int) (j : Int)) (r, true) := by
        intro d
        induction d with
        | zero =>
          intro j h h1
          obtain rfl : j = n := by omega
          refine ev_succ ?_
          simp only [impl_FirstVolumes.l1, Option.bind_some]
          rw [w64 (x := (l.length : Int) - (j : Int)) (by omega) (by omega)]
          refine ev_else (by omega) ?_
          refine ev_if (by omega) ?_
          refine ev_if (by omega) ?_
          rw [Int.toNat_natCast]
          refine Ev.bind (impl_total_ev (l.take j) (by simp; omega) (hpt j)) ?_
          refine ev_else (by omega) ?_
          refine Ev.bind (impl_leastVolume_ev c (l.drop j) (by simp; omega) (hpd j) (by rw [List.length_drop]; omega)) ?_
          have h4 := (lv_le m c (l.drop j) (fun x hx => (hpd j x hx).1) (by rw [List.length_drop]; omega)).2 n4
          refine ev_else (by omega) ?_
          refine ev_if (by omega) ?_
          rw [w64 (by omega) (by omega), show ((c + 1 : Nat) : Int) - 1 = ((c : Nat) : Int) by omega]
          exact r2
        | succ d ih =>
          intro j h h1
          have hnext := ih (j + 1) (by omega) (by omega)
          refine ev_succ ?_
          simp only [impl_FirstVolumes.l1, Option.bind_some]
          rw [w64s (by omega), w64 (x := (l.length : Int) - (j : Int)) (by omega) (by omega)]
          by_cases a : (l.length : Int) - (j : Int) < ((c + 1 : Nat) : Int)
          · refine ev_if a ?_
            exact hnext
          · refine ev_else a ?_
            refine ev_if (by omega) ?_
            refine ev_if (by omega) ?_
            rw [Int.toNat_natCast]
            refine Ev.bind (impl_total_ev (l.take j) (by simp; omega) (hpt j)) ?_
            by_cases b : tot (l.take j) > m
            · refine ev_if b ?_
              exact hnext
            · refine ev_else b ?_
              refine Ev.bind (impl_leastVolume_ev c (l.drop j) (by simp; omega) (hpd j) (by rw [List.length_drop]; omega)) ?_
              have h4 := n5 j h1 (by omega)
              have h5 : ¬ lv c (l.drop j) ≤ m := fun hh => by
                have := ((lv_le m c (l.drop j) (fun x hx => (hpd j x hx).1) (by rw [List.length_drop]; omega)).1 hh).2
                omega
              refine ev_if (by omega) ?_
              exact hnext
      exact key (n - 1) 1 (by omega) (by omega)
theorem same (l : List Int) (v : Int) (hl : l.length ≤ 1048576) (hw : ∀ x ∈ l, (Lit.int .i64 x).wf = true) (hv : (Lit.int .i64 v).wf = true) : ∃ r, Ev (fun k => spec_FirstVolumes.f k l v) r ∧ Ev (fun k => impl_FirstVolumes.f k l v) r ∧ r.1.length ≤ 1048576 := by
  simp only [spec_FirstVolumes.f, impl_FirstVolumes.f]
  by_cases c : askOk l v = true
  · obtain ⟨h1, n, rfl, h2, h3⟩ := askOk_nat c
    have hn := caOk_len h1
    have hp := caOk_all h1
    have hb := lv_bd n l hp h2
    have ht := tot_le l (fun x hx => (hp x hx).2)
    obtain ⟨r, r1, r2, r3⟩ := walk (lv n l) (by omega) n l [] hn.2 hp h2 ((lv_le _ n l (fun x hx => (hp x hx).1) h2).1 (Int.le_refl _)) (by simp; omega)
    refine ⟨(r, true), Ev.bind (spec_caAsked_ev l _ hl) ?_, Ev.bind (impl_areVolumes_ev l _ hl) ?_, by simp at r3; simp; omega⟩
    · simp only [c, if_true]
      refine Ev.bind (spec_caLeast_ev n l hn.2 hp h2) ?_
      exact r1
    · simp only [c, if_true]
      refine Ev.bind (impl_leastVolume_ev n l hn.2 hp h2) ?_
      rw [w64 (by omega) (by omega), show ((n + 1 : Nat) : Int) - 1 = ((n : Nat) : Int) by omega]
      exact r2
  · refine ⟨([], false), Ev.bind (spec_caAsked_ev l _ hl) ?_, Ev.bind (impl_areVolumes_ev l _ hl) ?_, by simp⟩
    all_goals
      simp only [c, Bool.false_eq_true, if_false]
      exact Ev.now _
theorem FnExactFirstVolumes : laws_FnExactFirstVolumes.Pure := by
  intro l0 v hm h8 hw wv
  refine Ev.rounds (r := true) ?_
  by_cases hl : (l0.length : Int) > 1048576
  · simp only [laws_FnExactFirstVolumes.f, if_pos hl]
    exact Ev.now _
  · have hl' : l0.length ≤ 1048576 := by omega
    obtain ⟨r, h1, h2, hr⟩ := same l0 v hl' hw wv
    simp only [laws_FnExactFirstVolumes.f, if_neg hl]
    repeat (first
      | exact Ev.now _
      | (dsimp only)
      | (with_reducible refine Ev.bind h1 ?_)
      | (with_reducible refine Ev.bind h2 ?_)
      | (with_reducible refine Ev.bind (laws_toIntS_ev _ (by omega)) ?_)
      | (with_reducible refine Ev.bind (laws_eqIntS_ev _ _ (by omega)) ?_)
      | (with_reducible refine Ev.bind (laws_markIntS_ev _ (by omega)) ?_)
      | (with_reducible refine Ev.bind (laws_heldIntS_ev _ (by omega)) ?_)
      | (simp only [decide_true, if_true, bne_self_eq_false, Bool.false_eq_true, if_false, neg_no])
      | (refine ev_succ ?_; simp only [laws_FnExactFirstVolumes.j0, laws_FnExactFirstVolumes.j1, laws_FnExactFirstVolumes.j2]))

end Go.Proofs.Ytmckakhdipjneaa.Pure
