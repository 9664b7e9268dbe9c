/- The plain law behind FnExactFirstStay, in lists and numbers alone: the program's search for the longest rising list of places and the reference's trial of all choices come to one list. No condition beyond the printed bounds. -/
import Derived.Test.YtlolifijdeenjaaXFnExactFirstStayx5
set_option linter.unusedVariables false
set_option linter.unusedSimpArgs false
namespace Go.Proofs.Ytlolifijdeenjaa.Pure
open Go.RowKit Go.Proofs.Ytlolifijdeenjaa.XFnExactFirstStay Go.Proofs.YtlolifijdeenjaaW.PrintWords Go.Proofs.YtlolifijdeenjaaW.PrintLast Go.Proofs.YtlolifijdeenjaaW.PrintMore
/-! ### Small words: rounds, reads, sums without a wrap. -/
theorem ev_some {α β : Type} {g : Option α} {f : Nat → α → Option β} {a : α} {r : β} (h : g = some a) (k : Ev (fun n => f n a) r) : Ev (fun n => g.bind (f n)) r := by
  subst h
  exact k
theorem ev_ret {α : Type} {r s : α} (h : r = s) : Ev (fun _ => some r) s := by
  subst h
  exact Ev.now r
theorem ev_map {α β : Type} {g : Nat → Option α} {f : α → β} {a : α} {r : β} (h : Ev g a) (e : f a = r) : Ev (fun n => (g n).bind fun t => some (f t)) r := Ev.bind h (ev_ret e)
theorem ev_eq {α : Type} {g f : Nat → Option α} {r : α} (h : g = f) (k : Ev f r) : Ev g r := by
  rw [h]
  exact k
theorem w64 {x : Int} (h0 : -9223372036854775808 ≤ x) (h1 : x ≤ 9223372036854775807) : wrap64 x = x := by
  unfold wrap64
  omega
theorem w64s {i : Nat} (h : i < 4611686018427387904) : wrap64 ((i : Int) + 1) = ((i + 1 : Nat) : Int) := by
  rw [w64 (by omega) (by omega)]
  rfl
theorem rd_nat (l : List Int) (i : Nat) (h : i < l.length) : rd l (i : Int) = l[i] := by
  unfold rd
  rw [Int.toNat_natCast, List.getD_eq_getElem?_getD, List.getElem?_eq_getElem h]
  rfl
theorem wf_i64 {x : Int} (h : (Lit.int .i64 x).wf = true) : -9223372036854775808 ≤ x ∧ x ≤ 9223372036854775807 := by
  simp only [Lit.wf, Bool.and_eq_true, decide_eq_true_eq] at h
  exact h
theorem ev_succ {α : Type} {g : Nat → Option α} {r : α} (h : Ev (fun k => g (k + 1)) r) : Ev g r := Ev.step (fun _ => rfl) h
theorem neg_no (n : Nat) : ¬ (1 + (n : Int) < 0) := by omega
theorem ev_if {α : Type} {c : Prop} [Decidable c] {g f : Nat → Option α} {r : α} (h : c) (k : Ev g r) : Ev (fun n => if c then g n else f n) r := Ev.congr (fun _ => if_pos h) k
theorem ev_else {α : Type} {c : Prop} [Decidable c] {g f : Nat → Option α} {r : α} (h : ¬ c) (k : Ev f r) : Ev (fun n => if c then g n else f n) r := Ev.congr (fun _ => if_neg h) k

theorem set_app {α : Type} (a b : List α) (x y : α) (n : Nat) (h : n = a.length) : (a ++ x :: b).set n y = a ++ y :: b := by
  subst h
  simp

theorem laws_toIntS_ev (l : List Int) (hl : l.length ≤ 1048576) : Ev (fun k => laws_toIntS.f k l) l := by
  have key : ∀ (d i : Nat), i + d = l.length → Ev (fun k => laws_toIntS.l0 k l (l.take i ++ List.replicate d 0) (i : Int)) l := by
    intro d
    induction d with
    | zero =>
      intro i h
      refine ev_succ ?_
      simp only [laws_toIntS.l0]
      refine ev_else (by omega) ?_
      refine ev_ret ?_
      rw [List.take_of_length_le (by omega)]
      simp
    | succ d ih =>
      intro i h
      have hi' : i < l.length := by omega
      refine Ev.step (f := fun k => laws_toIntS.l0 k l (l.take (i + 1) ++ List.replicate d 0) ((i + 1 : Nat) : Int)) (fun k => ?_) (ih (i + 1) (by omega))
      simp only [laws_toIntS.l0]
      rw [if_pos (by omega), if_pos (by omega), if_pos (by simp; omega), rd_nat l i hi', w64s (by omega), Int.toNat_natCast, List.replicate_succ, set_app _ _ _ _ _ (by simp; omega), List.take_succ_eq_append_getElem hi']
      simp only [List.append_assoc, List.cons_append, List.nil_append]
  refine ev_eq (f := fun k => laws_toIntS.l0 k l (l.take 0 ++ List.replicate l.length 0) ((0 : Nat) : Int)) ?_ (key l.length 0 (by omega))
  funext k
  simp only [laws_toIntS.f]
  rw [if_pos (by omega), if_pos (by omega)]
  simp

theorem laws_eqIntS_ev (a b : List Int) (hl : a.length ≤ 4611686018427387903) : Ev (fun k => laws_eqIntS.f k a b) (decide (a = b)) := by
  by_cases hlen : a.length = b.length
  · have key : ∀ (d i : Nat), i + d = a.length → Ev (fun k => laws_eqIntS.l0 k a b (i : Int)) (decide (a.drop i = b.drop i)) := by
      intro d
      induction d with
      | zero =>
        intro i h
        rw [List.drop_eq_nil_of_le (by omega), List.drop_eq_nil_of_le (by omega)]
        refine ev_succ ?_
        simp only [laws_eqIntS.l0]
        refine ev_else (by omega) ?_
        exact ev_ret (by simp)
      | succ d ih =>
        intro i h
        have h1 : i < a.length := by omega
        have h2 : i < b.length := by omega
        rw [List.drop_eq_getElem_cons h1, List.drop_eq_getElem_cons h2]
        refine Ev.step (f := fun k => if a[i] = b[i] then laws_eqIntS.l0 k a b ((i + 1 : Nat) : Int) else some false) (fun k => by simp only [laws_eqIntS.l0]; rw [if_pos (by omega), if_pos (by omega), if_pos (by omega), rd_nat a i h1, rd_nat b i h2, w64s (by omega)]) ?_
        by_cases c : a[i] = b[i]
        · simp only [c, if_true, List.cons.injEq, true_and]
          exact ih (i + 1) (by omega)
        · simp only [c, if_false, List.cons.injEq, false_and, decide_false]
          exact Ev.now _
    refine ev_eq (f := fun k => laws_eqIntS.l0 k a b ((0 : Nat) : Int)) ?_ (key a.length 0 (by omega))
    funext k
    simp only [laws_eqIntS.f]
    rw [if_pos (by omega)]
    rfl
  · refine ev_eq (f := fun _ => some false) ?_ (ev_ret (by simp; intro h; exact hlen (by rw [h])))
    funext k
    simp only [laws_eqIntS.f]
    rw [if_neg (by omega)]

def marked (m : Int) (n : Nat) : List Int := (List.range n).map fun (j : Nat) => m + (j : Int)
theorem marked_succ (m : Int) (n : Nat) : marked m (n + 1) = marked m n ++ [m + (n : Int)] := by
  unfold marked
  rw [List.range_succ]
  simp
theorem marked_len (m : Int) (n : Nat) : (marked m n).length = n := by simp [marked]
theorem laws_markIntS_ev (l : List Int) (hl : l.length ≤ 1048576) : Ev (fun k => laws_markIntS.f k l 1) (1 + (l.length : Int), marked 1 l.length) := by
  have key : ∀ (d i : Nat), i + d = l.length → Ev (fun k => laws_markIntS.l0 k (marked 1 i ++ l.drop i) (1 + (i : Int)) (i : Int)) (1 + (l.length : Int), marked 1 l.length) := by
    intro d
    induction d with
    | zero =>
      intro i h
      obtain rfl : i = l.length := by omega
      refine ev_succ ?_
      simp only [laws_markIntS.l0]
      refine ev_else (by simp [marked_len]) ?_
      refine ev_ret ?_
      simp
    | succ d ih =>
      intro i h
      have h1 : i < l.length := by omega
      refine Ev.step (f := fun k => laws_markIntS.l0 k (marked 1 (i + 1) ++ l.drop (i + 1)) (1 + ((i + 1 : Nat) : Int)) ((i + 1 : Nat) : Int)) (fun k => ?_) (ih (i + 1) (by omega))
      simp only [laws_markIntS.l0]
      rw [if_pos (by simp [marked_len]; omega), if_pos (by omega), w64s (by omega), Int.toNat_natCast, List.drop_eq_getElem_cons h1, set_app _ _ _ _ _ (by simp [marked_len]), w64 (by omega) (by omega), marked_succ]
      simp only [List.append_assoc, List.singleton_append, Int.natCast_succ, Int.add_assoc]
  refine ev_eq (f := fun k => laws_markIntS.l0 k (marked 1 0 ++ l.drop 0) (1 + ((0 : Nat) : Int)) ((0 : Nat) : Int)) ?_ (key l.length 0 (by omega))
  funext k
  simp only [laws_markIntS.f]
  simp [marked]
theorem laws_heldIntS_ev (n : Nat) (hl : n ≤ 1048576) : Ev (fun k => laws_heldIntS.f k (marked 1 n) 1) (1 + (n : Int)) := by
  have key : ∀ (d i : Nat), i + d = n → Ev (fun k => laws_heldIntS.l0 k (marked 1 n) (1 + (i : Int)) (i : Int)) (1 + (n : Int)) := by
    intro d
    induction d with
    | zero =>
      intro i h
      obtain rfl : i = n := by omega
      refine ev_succ ?_
      simp only [laws_heldIntS.l0]
      refine ev_else (by simp [marked_len]) ?_
      exact ev_ret rfl
    | succ d ih =>
      intro i h
      refine Ev.step (f := fun k => laws_heldIntS.l0 k (marked 1 n) (1 + ((i + 1 : Nat) : Int)) ((i + 1 : Nat) : Int)) (fun k => ?_) (ih (i + 1) (by omega))
      simp only [laws_heldIntS.l0]
      rw [if_pos (by simp [marked_len]; omega), if_pos (by omega), rd_nat _ i (by simp [marked_len]; omega), if_pos (by simp [marked]), w64s (by omega), w64 (by omega) (by omega)]
      simp only [Int.natCast_succ, Int.add_assoc]
  refine ev_eq (f := fun k => laws_heldIntS.l0 k (marked 1 n) (1 + ((0 : Nat) : Int)) ((0 : Nat) : Int)) ?_ (key n 0 (by omega))
  funext k
  simp only [laws_heldIntS.f]
  simp

theorem spec_l1In_eq (x lo hi : Int) : spec_l1In.f x lo hi = some (decide (lo ≤ x ∧ x ≤ hi)) := by
  unfold spec_l1In.f
  by_cases c : x ≥ lo
  · rw [if_pos c]
    congr 1
    simp only [c, true_and]
  · rw [if_neg c]
    congr 1
    exact (decide_eq_false (fun h => c h.1)).symm

theorem impl_within_eq (x lo hi : Int) : impl_within.f x lo hi = some (decide (lo ≤ x ∧ x ≤ hi)) := by
  unfold impl_within.f
  by_cases c : x ≥ lo
  · rw [if_pos c]
    congr 1
    simp only [c, true_and]
  · rw [if_neg c]
    congr 1
    exact (decide_eq_false (fun h => c h.1)).symm

theorem slices_Index_ev (l : List Int) (x : Int) (j : Nat) (hj : j < l.length) (hl : l.length ≤ 1048576) (hx : rd l (j : Int) = x) (hn : ∀ i, i < j → rd l (i : Int) ≠ x) : Ev (fun k => slices_Index_int_int.f k l x) ((j : Nat) : Int) := by
  have key : ∀ (d i : Nat), i + d = j → Ev (fun k => slices_Index_int_int.l0 k l x (l.length : Int) (i : Int)) ((j : Nat) : Int) := by
    intro d
    induction d with
    | zero =>
      intro i h
      obtain rfl : i = j := by omega
      refine ev_succ ?_
      simp only [slices_Index_int_int.l0]
      refine ev_if (by omega) ?_
      refine ev_if (by omega) ?_
      refine ev_if (by omega) ?_
      refine ev_if hx.symm ?_
      exact Ev.now _
    | succ d ih =>
      intro i h
      refine ev_succ ?_
      simp only [slices_Index_int_int.l0]
      refine ev_if (by omega) ?_
      refine ev_if (by omega) ?_
      refine ev_if (by omega) ?_
      refine ev_else (fun e => hn i (by omega) e.symm) ?_
      rw [w64s (by omega)]
      exact ih (i + 1) (by omega)
  exact key j 0 (by omega)
theorem slices_Index_none (l : List Int) (x : Int) (hl : l.length ≤ 1048576) (hn : ∀ i, i < l.length → rd l (i : Int) ≠ x) : Ev (fun k => slices_Index_int_int.f k l x) (-1) := by
  have key : ∀ (d i : Nat), i + d = l.length → Ev (fun k => slices_Index_int_int.l0 k l x (l.length : Int) (i : Int)) (-1) := by
    intro d
    induction d with
    | zero =>
      intro i h
      refine ev_succ ?_
      simp only [slices_Index_int_int.l0]
      refine ev_else (by omega) ?_
      exact Ev.now _
    | succ d ih =>
      intro i h
      refine ev_succ ?_
      simp only [slices_Index_int_int.l0]
      refine ev_if (by omega) ?_
      refine ev_if (by omega) ?_
      refine ev_if (by omega) ?_
      refine ev_else (fun e => hn i (by omega) e.symm) ?_
      rw [w64s (by omega)]
      exact ih (i + 1) (by omega)
  exact key l.length 0 (by omega)

theorem sub_length : ∀ (l L : List Int), l.Nodup → (∀ x ∈ l, x ∈ L) → l.length ≤ L.length
  | [], _, _, _ => Nat.zero_le _
  | x :: l, L, hn, h => by
    have hx := h x List.mem_cons_self
    have hn' := List.nodup_cons.1 hn
    have h1 := sub_length l (L.erase x) hn'.2 (fun y hy => by
      refine (List.mem_erase_of_ne ?_).2 (h y (List.mem_cons_of_mem _ hy))
      rintro rfl
      exact hn'.1 hy)
    have h2 := List.length_erase_of_mem hx
    have h3 : 0 < L.length := List.length_pos_of_mem hx
    simp only [List.length_cons]
    omega
def upTo (n : Nat) : List Int := (List.range n).map fun (j : Nat) => (j : Int)
theorem mem_upTo {n : Nat} {x : Int} : x ∈ upTo n ↔ 0 ≤ x ∧ x < n := by
  unfold upTo
  rw [List.mem_map]
  constructor
  · rintro ⟨j, h1, rfl⟩
    have := List.mem_range.1 h1
    omega
  · rintro ⟨h1, h2⟩
    exact ⟨x.toNat, List.mem_range.2 (by omega), by omega⟩
theorem upTo_len (n : Nat) : (upTo n).length = n := by simp [upTo]
theorem upTo_nodup (n : Nat) : (upTo n).Nodup := by
  unfold upTo
  refine List.Pairwise.map _ ?_ List.nodup_range
  intro a b h e
  exact h (by omega)
/-- A list that has each number below its length. -/
def Whole (l : List Int) : Prop := ∀ i, i < l.length → (i : Int) ∈ l
/-- A list of numbers below its length, each once. -/
def Once (l : List Int) : Prop := ∀ i (h : i < l.length), (0 ≤ l[i] ∧ l[i] ≤ (l.length : Int) - 1) ∧ l[i] ∉ l.take i
theorem whole_drop {l : List Int} (h : Whole l) (i : Nat) (hi : i < l.length) (hs : ∀ v ∈ upTo l.length, v ∈ l.eraseIdx i) : False := by
  have h1 := sub_length _ _ (upTo_nodup l.length) hs
  rw [upTo_len, List.length_eraseIdx_of_lt hi] at h1
  omega
theorem once_of_whole {l : List Int} (h : Whole l) : Once l := by
  have hall : ∀ v ∈ upTo l.length, ∃ j, ∃ hj : j < l.length, l[j] = v := by
    intro v hv
    have h1 := mem_upTo.1 hv
    have h2 := h v.toNat (by omega)
    rw [Int.toNat_of_nonneg h1.1] at h2
    obtain ⟨j, hj, e⟩ := List.getElem_of_mem h2
    exact ⟨j, hj, e⟩
  intro i hi
  constructor
  · by_cases c : 0 ≤ l[i] ∧ l[i] ≤ (l.length : Int) - 1
    · exact c
    · refine (whole_drop h i hi (fun v hv => ?_)).elim
      obtain ⟨j, hj, e⟩ := hall v hv
      have hv' := mem_upTo.1 hv
      refine List.mem_eraseIdx_iff_getElem.2 ⟨j, hj, ?_, e⟩
      rintro rfl
      omega
  · intro hm
    obtain ⟨j, hj, e⟩ := List.getElem_of_mem hm
    rw [List.length_take] at hj
    rw [List.getElem_take] at e
    refine whole_drop h i hi (fun v hv => ?_)
    obtain ⟨t, ht, e2⟩ := hall v hv
    by_cases c : t = i
    · subst c
      exact List.mem_eraseIdx_iff_getElem.2 ⟨j, by omega, by omega, e.trans e2⟩
    · exact List.mem_eraseIdx_iff_getElem.2 ⟨t, ht, c, e2⟩
theorem once_inj {l : List Int} (h : Once l) {i j : Nat} (hi : i < l.length) (hj : j < l.length) (e : l[i] = l[j]) : i = j := by
  have key : ∀ (a b : Nat) (ha : a < l.length) (hb : b < l.length), a < b → l[a] ≠ l[b] := by
    intro a b ha hb hab e
    refine (h b hb).2 ?_
    rw [← e]
    have : (l.take b)[a]'(by rw [List.length_take]; omega) = l[a] := List.getElem_take
    rw [← this]
    exact List.getElem_mem _
  rcases Nat.lt_trichotomy i j with c | c | c
  · exact (key i j hi hj c e).elim
  · exact c
  · exact (key j i hj hi c e.symm).elim
theorem nodup_of_once {l : List Int} (h : Once l) : l.Nodup := by
  rw [List.nodup_iff_pairwise_ne, List.pairwise_iff_getElem]
  intro i j hi hj hij e
  exact absurd (once_inj h hi hj e) (by omega)
theorem whole_of_once {l : List Int} (h : Once l) : Whole l := by
  intro i hi
  by_cases c : (i : Int) ∈ l
  · exact c
  · have h1 := sub_length l ((upTo l.length).erase (i : Int)) (nodup_of_once h) (fun x hx => by
      obtain ⟨j, hj, rfl⟩ := List.getElem_of_mem hx
      have h2 := (h j hj).1
      refine (List.mem_erase_of_ne ?_).2 (mem_upTo.2 ⟨h2.1, by omega⟩)
      intro e
      exact c (e ▸ hx))
    rw [List.length_erase_of_mem (mem_upTo.2 ⟨by omega, by omega⟩), upTo_len] at h1
    omega
def allIn (l : List Int) : Bool := (List.range l.length).all fun i => decide ((i : Int) ∈ l)
theorem allIn_iff (l : List Int) : allIn l = true ↔ Whole l := by
  unfold allIn Whole
  rw [List.all_eq_true]
  simp only [List.mem_range, decide_eq_true_eq]
def stOk (l : List Int) : Bool := decide (1 ≤ (l.length : Int) ∧ (l.length : Int) ≤ 8) && allIn l
theorem stOk_whole {l : List Int} (h : stOk l = true) : 1 ≤ l.length ∧ l.length ≤ 8 ∧ Whole l := by
  simp only [stOk, Bool.and_eq_true, decide_eq_true_eq, allIn_iff] at h
  exact ⟨by omega, by omega, h.2⟩
theorem spec_l1Has_ev (l : List Int) (x : Int) (hl : l.length ≤ 1048576) : Ev (fun k => spec_l1Has.f k l x) (decide (x ∈ l)) := by
  have key : ∀ (d i : Nat), i + d = l.length → Ev (fun k => spec_l1Has.l0 k x l (l.length : Int) (i : Int)) (decide (x ∈ l.drop i)) := by
    intro d
    induction d with
    | zero =>
      intro i h
      rw [List.drop_eq_nil_of_le (by omega)]
      refine ev_succ ?_
      simp only [spec_l1Has.l0]
      refine ev_else (by omega) ?_
      exact ev_ret (by simp)
    | succ d ih =>
      intro i h
      have h1 : i < l.length := by omega
      rw [List.drop_eq_getElem_cons h1]
      refine ev_succ ?_
      simp only [spec_l1Has.l0]
      refine ev_if (by omega) ?_
      refine ev_if (by omega) ?_
      refine ev_if (by omega) ?_
      rw [rd_nat l i h1]
      by_cases c : l[i] = x
      · refine ev_if c ?_
        exact ev_ret (decide_eq_true (by rw [c]; exact List.mem_cons_self)).symm
      · refine ev_else c ?_
        rw [w64s (by omega)]
        have e : decide (x ∈ l[i] :: l.drop (i + 1)) = decide (x ∈ l.drop (i + 1)) := by
          refine decide_eq_decide.2 ?_
          rw [List.mem_cons]
          exact ⟨fun h => h.resolve_left (fun e => c e.symm), .inr⟩
        rw [e]
        exact ih (i + 1) (by omega)
  exact key l.length 0 (by omega)
theorem first_is (l : List Int) (x : Int) : (∀ i, i < l.length → rd l (i : Int) ≠ x) ∨ ∃ j, j < l.length ∧ rd l (j : Int) = x ∧ ∀ i, i < j → rd l (i : Int) ≠ x := by
  have key : ∀ n, n ≤ l.length → (∀ i, i < n → rd l (i : Int) ≠ x) ∨ ∃ j, j < n ∧ rd l (j : Int) = x ∧ ∀ i, i < j → rd l (i : Int) ≠ x := by
    intro n
    induction n with
    | zero => exact fun _ => .inl (fun i hi => by omega)
    | succ n ih =>
      intro h
      rcases ih (by omega) with a | ⟨j, a, b, c⟩
      · by_cases e : rd l (n : Int) = x
        · exact .inr ⟨n, by omega, e, a⟩
        · refine .inl (fun i hi => ?_)
          by_cases f : i = n
          · subst f
            exact e
          · exact a i (by omega)
      · exact .inr ⟨j, by omega, b, c⟩
  exact key l.length (Nat.le_refl _)
theorem mem_rd {l : List Int} {x : Int} : x ∈ l ↔ ∃ j, j < l.length ∧ rd l (j : Int) = x := by
  constructor
  · intro h
    obtain ⟨j, hj, e⟩ := List.getElem_of_mem h
    exact ⟨j, hj, by rw [rd_nat l j hj]; exact e⟩
  · rintro ⟨j, hj, e⟩
    rw [rd_nat l j hj] at e
    rw [← e]
    exact List.getElem_mem _
theorem slices_Contains_ev (l : List Int) (x : Int) (hl : l.length ≤ 1048576) : Ev (fun k => slices_Contains_int_int.f k l x) (decide (x ∈ l)) := by
  simp only [slices_Contains_int_int.f]
  rcases first_is l x with h | ⟨j, h1, h2, h3⟩
  · refine ev_map (slices_Index_none l x hl h) ?_
    rw [decide_eq_false (by omega), decide_eq_false]
    intro hm
    obtain ⟨j, hj, e⟩ := mem_rd.1 hm
    exact h j hj e
  · refine ev_map (slices_Index_ev l x j h1 hl h2 h3) ?_
    rw [decide_eq_true (by omega), decide_eq_true (mem_rd.2 ⟨j, h1, h2⟩)]
theorem impl_isOrder_ev (l : List Int) (hl : l.length ≤ 1048576) : Ev (fun k => impl_isOrder.f k l (l.length : Int)) (allIn l) := by
  have key : ∀ (d i : Nat), i + d = l.length → (∀ j, j < i → (j : Int) ∈ l) → Ev (fun k => impl_isOrder.l0 k l (l.length : Int) (l.length : Int) (i : Int)) (allIn l) := by
    intro d
    induction d with
    | zero =>
      intro i h hi
      refine ev_succ ?_
      simp only [impl_isOrder.l0]
      refine ev_else (by omega) ?_
      refine ev_ret ?_
      rw [(allIn_iff l).2 (fun j hj => hi j (by omega))]
      simp
    | succ d ih =>
      intro i h hi
      refine ev_succ ?_
      simp only [impl_isOrder.l0]
      refine ev_if (by omega) ?_
      refine Ev.bind (slices_Contains_ev l (i : Int) hl) ?_
      by_cases c : (i : Int) ∈ l
      · simp only [c, decide_true, if_true]
        rw [w64s (by omega)]
        refine ih (i + 1) (by omega) (fun j hj => ?_)
        by_cases e : j = i
        · subst e
          exact c
        · exact hi j (by omega)
      · simp only [c, decide_false, Bool.false_eq_true, if_false]
        refine ev_ret ?_
        refine (Bool.eq_false_iff.2 (fun h1 => ?_)).symm
        exact c ((allIn_iff l).1 h1 i (by omega))
  exact key l.length 0 (by omega) (fun j hj => by omega)
theorem impl_IsStanding_ev (l : List Int) (hl : l.length ≤ 1048576) : Ev (fun k => impl_IsStanding.f k l) (stOk l) := by
  simp only [impl_IsStanding.f, stOk]
  refine ev_some (impl_within_eq _ _ _) ?_
  by_cases c : 1 ≤ (l.length : Int) ∧ (l.length : Int) ≤ 8
  · simp only [c, and_self, decide_true, if_true, Bool.true_and]
    exact ev_map (impl_isOrder_ev l hl) rfl
  · simp only [c, decide_false, Bool.false_and, Bool.false_eq_true, if_false]
    exact Ev.now _
theorem spec_shStands_ev (l : List Int) (hl : l.length ≤ 1048576) : Ev (fun k => spec_shStands.f k l) (stOk l) := by
  have key : ∀ (d i : Nat), i + d = l.length → (∀ j (h : j < l.length), j < i → (0 ≤ l[j] ∧ l[j] ≤ (l.length : Int) - 1) ∧ l[j] ∉ l.take j) → Ev (fun k => spec_shStands.l0 k l l (l.length : Int) (i : Int)) (allIn l) := by
    intro d
    induction d with
    | zero =>
      intro i h hi
      refine ev_succ ?_
      simp only [spec_shStands.l0]
      refine ev_else (by omega) ?_
      refine ev_ret ?_
      exact ((allIn_iff l).2 (whole_of_once (fun j hj => hi j hj (by omega)))).symm
    | succ d ih =>
      intro i h hi
      have h1 : i < l.length := by omega
      have hno : ¬ ((0 ≤ l[i] ∧ l[i] ≤ (l.length : Int) - 1) ∧ l[i] ∉ l.take i) → false = allIn l := by
        intro hc
        refine (Bool.eq_false_iff.2 (fun h2 => ?_)).symm
        exact hc (once_of_whole ((allIn_iff l).1 h2) i h1)
      refine ev_succ ?_
      simp only [spec_shStands.l0]
      refine ev_if (by omega) ?_
      refine ev_if (by omega) ?_
      refine ev_if (by omega) ?_
      rw [w64 (x := (l.length : Int) - 1) (by omega) (by omega), rd_nat l i h1]
      refine ev_some (spec_l1In_eq _ _ _) ?_
      by_cases c : 0 ≤ l[i] ∧ l[i] ≤ (l.length : Int) - 1
      · simp only [c, and_self, decide_true, if_true]
        refine ev_if (by omega) ?_
        rw [Int.toNat_natCast]
        refine Ev.bind (spec_l1Has_ev _ _ (by rw [List.length_take]; omega)) ?_
        by_cases e : l[i] ∈ l.take i
        · simp only [e, decide_true, if_true]
          exact ev_ret (hno (fun hh => hh.2 e))
        · simp only [e, decide_false, Bool.false_eq_true, if_false]
          rw [w64s (by omega)]
          refine ih (i + 1) (by omega) (fun j hj hji => ?_)
          by_cases f : j = i
          · subst f
            exact ⟨c, e⟩
          · exact hi j hj (by omega)
      · simp only [c, decide_false, Bool.false_eq_true, if_false]
        exact ev_ret (hno (fun hh => c hh.1))
  simp only [spec_shStands.f, stOk]
  refine ev_some (spec_l1In_eq _ _ _) ?_
  by_cases c : 1 ≤ (l.length : Int) ∧ (l.length : Int) ≤ 8
  · simp only [c, and_self, decide_true, if_true, Bool.true_and]
    exact key l.length 0 (by omega) (fun j hj hji => by omega)
  · simp only [c, decide_false, Bool.false_and, Bool.false_eq_true, if_false]
    exact Ev.now _

/-- The lists tried, in order. -/
def nx (l : List Int) : Nat → Nat → Int → List (List Int)
  | 0, _, _ => []
  | f + 1, k, v => (if v < rd l (k : Int) then [(k : Int)] :: (nx l f (k + 1) (rd l (k : Int))).map ((k : Int) :: ·) else []) ++ nx l f (k + 1) v
theorem lp_eq (l : List Int) : ∀ (f k : Nat) (v : Int) (p b : List Int), impl_stay.lp l f k v p b = ((nx l f k v).map (p ++ ·)).foldl impl_stay.up b
  | 0, _, _, _, _ => rfl
  | f + 1, k, v, p, b => by
    rw [impl_stay.lp, nx]
    by_cases c : v < rd l (k : Int)
    · rw [if_pos c, if_pos c, lp_eq, lp_eq, List.map_append, List.foldl_append]
      simp [Function.comp_def]
    · rw [if_neg c, if_neg c, lp_eq]
      rfl
/-- The first difference decides. -/
def lx : List Int → List Int → Bool
  | a :: x, b :: y => if a = b then lx x y else decide (a < b)
  | _, _ => false
theorem lx_irr : ∀ x : List Int, lx x x = false
  | [] => rfl
  | a :: x => by rw [lx, if_pos rfl]; exact lx_irr x
theorem lx_trans : ∀ {x y z : List Int}, x.length = y.length → y.length = z.length → lx x y = true → lx y z = true → lx x z = true
  | [], _, _, _, _, h, _ => by simp [lx] at h
  | _ :: _, [], _, _, _, h, _ => by simp [lx] at h
  | _ :: _, _ :: _, [], _, _, _, h => by simp [lx] at h
  | a :: x, b :: y, c :: z, h1, h2, h3, h4 => by
    rw [lx] at h3 h4 ⊢
    by_cases e1 : a = b
    · subst e1
      rw [if_pos rfl] at h3
      by_cases e2 : a = c
      · subst e2
        rw [if_pos rfl] at h4 ⊢
        exact lx_trans (by simpa using h1) (by simpa using h2) h3 h4
      · rw [if_neg e2] at h4 ⊢
        exact h4
    · rw [if_neg e1] at h3
      have h3' := of_decide_eq_true h3
      by_cases e2 : b = c
      · subst e2
        rw [if_neg e1]
        exact h3
      · rw [if_neg e2] at h4
        have h4' := of_decide_eq_true h4
        rw [if_neg (by omega)]
        exact decide_eq_true (by omega)
theorem lx_total : ∀ {x y : List Int}, x.length = y.length → lx x y = false → lx y x = false → x = y
  | [], [], _, _, _ => rfl
  | [], _ :: _, h, _, _ => by simp at h
  | _ :: _, [], h, _, _ => by simp at h
  | a :: x, b :: y, h, h1, h2 => by
    rw [lx] at h1 h2
    by_cases e : a = b
    · subst e
      rw [if_pos rfl] at h1 h2
      rw [lx_total (by simpa using h) h1 h2]
    · rw [if_neg e] at h1
      rw [if_neg (fun q => e q.symm)] at h2
      have := of_decide_eq_false h1
      have := of_decide_eq_false h2
      omega
/-- x is the better list. -/
def bet (x y : List Int) : Bool := decide (y.length < x.length) || (decide (x.length = y.length) && lx x y)
theorem bet_iff (x y : List Int) : bet x y = true ↔ y.length < x.length ∨ (x.length = y.length ∧ lx x y = true) := by simp [bet]
theorem bet_trans {x y z : List Int} (h1 : bet x y = true) (h2 : bet y z = true) : bet x z = true := by
  rw [bet_iff] at h1 h2 ⊢
  rcases h1 with h1 | ⟨h1, l1⟩
  · rcases h2 with h2 | ⟨h2, l2⟩
    · exact .inl (by omega)
    · exact .inl (by omega)
  · rcases h2 with h2 | ⟨h2, l2⟩
    · exact .inl (by omega)
    · exact .inr ⟨by omega, lx_trans h1 h2 l1 l2⟩
theorem bet_irr (x : List Int) : bet x x = false := by simp [bet, lx_irr]
theorem bet_total {x y : List Int} (h1 : bet x y = false) (h2 : bet y x = false) : x = y := by
  have n1 : ¬ bet x y = true := by simp [h1]
  have n2 : ¬ bet y x = true := by simp [h2]
  rw [bet_iff] at n1 n2
  have e : x.length = y.length := by omega
  refine lx_total e ?_ ?_
  · cases q : lx x y
    · rfl
    · exact absurd (.inr ⟨e, q⟩) n1
  · cases q : lx y x
    · rfl
    · exact absurd (.inr ⟨e.symm, q⟩) n2
/-- The list that is not beaten: there is just one. -/
def Top (r : List Int) (P : List Int → Prop) : Prop := P r ∧ ∀ x, P x → bet x r = false
theorem Top.one {r s : List Int} {P : List Int → Prop} (h : Top r P) (k : Top s P) : r = s := bet_total (k.2 r h.1) (h.2 s k.1)
/-- Each better one is taken. -/
def sup (b x : List Int) : List Int := if bet x b = true then x else b
theorem sup_top : ∀ (xs : List (List Int)) (b : List Int), Top (xs.foldl sup b) (fun x => x ∈ b :: xs)
  | [], b => ⟨List.mem_singleton.2 rfl, fun x hx => by rw [List.mem_singleton.1 hx]; exact bet_irr b⟩
  | y :: xs, b => by
    obtain ⟨h1, h2⟩ := sup_top xs (sup b y)
    rw [List.foldl_cons]
    generalize List.foldl sup (sup b y) xs = r at h1 h2
    have hs : sup b y = y ∧ bet y b = true ∨ sup b y = b ∧ bet y b = false := by
      unfold sup
      cases q : bet y b
      · exact .inr ⟨by simp, rfl⟩
      · exact .inl ⟨by simp, rfl⟩
    refine ⟨?_, fun x hx => ?_⟩
    · rcases hs with ⟨e, _⟩ | ⟨e, _⟩ <;> rw [e] at h1 <;> simp only [List.mem_cons] at h1 ⊢ <;> rcases h1 with h1 | h1 <;> simp [h1]
    · have key : ∀ x, x = b ∨ x = y → bet x r = false := by
        intro x hx
        cases q : bet x r
        · rfl
        · exfalso
          rcases hs with ⟨e, hb⟩ | ⟨e, hb⟩
          · rw [e] at h2
            have h3 := h2 y (by simp)
            rcases hx with rfl | rfl
            · rw [bet_trans hb q] at h3; cases h3
            · rw [q] at h3; cases h3
          · rw [e] at h2
            have h3 := h2 b (by simp)
            rcases hx with rfl | rfl
            · rw [q] at h3; cases h3
            · -- y does not beat b, b does not beat r; yet y beats r
              have n1 : ¬ bet x b = true := by simp [hb]
              have n2 : ¬ bet b r = true := by simp [h3]
              rw [bet_iff] at n1 n2 q
              rcases q with q | ⟨q, l⟩
              · omega
              · have e1 : x.length = b.length := by omega
                have e2 : b.length = r.length := by omega
                have l1 : lx x b = false := by cases z : lx x b; rfl; exact absurd (.inr ⟨e1, z⟩) n1
                have l2 : lx b r = false := by cases z : lx b r; rfl; exact absurd (.inr ⟨e2, z⟩) n2
                cases z : lx b x
                · have := lx_total e1 l1 z
                  subst this
                  rw [l] at l2; cases l2
                · rw [lx_trans e1.symm (by omega) z l] at l2; cases l2
      rcases List.mem_cons.1 hx with hx | hx
      · exact key x (.inl hx)
      · rcases List.mem_cons.1 hx with hx | hx
        · exact key x (.inr hx)
        · exact h2 x (List.mem_cons_of_mem _ hx)
/-- Of lists in order the first longest is the best. -/
theorem up_top : ∀ (xs : List (List Int)) (b : List Int), (b :: xs).Pairwise (fun x y => x.length = y.length → lx x y = true) → xs.foldl impl_stay.up b = xs.foldl sup b
  | [], _, _ => rfl
  | y :: xs, b, h => by
    rw [List.foldl_cons, List.foldl_cons]
    have hb := (List.pairwise_cons.1 h).1 y (by simp)
    have ht := (List.pairwise_cons.1 h).2
    have e : impl_stay.up b y = sup b y := by
      unfold impl_stay.up sup
      by_cases c : b.length < y.length
      · rw [if_pos c, if_pos ((bet_iff _ _).2 (.inl c))]
      · rw [if_neg c, if_neg]
        rw [bet_iff]
        rintro (q | ⟨q, l⟩)
        · exact c q
        · have := lx_trans q.symm q (hb q.symm) l
          rw [lx_irr] at this
          cases this
    rw [e]
    refine up_top xs _ ?_
    unfold sup
    split
    · exact ht
    · exact List.pairwise_cons.2 ⟨fun x hx => (List.pairwise_cons.1 h).1 x (List.mem_cons_of_mem _ hx), (List.pairwise_cons.1 ht).2⟩
theorem nx_ge (l : List Int) : ∀ (f k : Nat) (v : Int), ∀ x ∈ nx l f k v, ∃ a y, x = a :: y ∧ (k : Int) ≤ a
  | 0, _, _, x, hx => by simp [nx] at hx
  | f + 1, k, v, x, hx => by
    rw [nx, List.mem_append] at hx
    rcases hx with hx | hx
    · split at hx
      · rcases List.mem_cons.1 hx with rfl | hx
        · exact ⟨_, _, rfl, Int.le_refl _⟩
        · obtain ⟨y, _, rfl⟩ := List.mem_map.1 hx
          exact ⟨_, _, rfl, Int.le_refl _⟩
      · simp at hx
    · obtain ⟨a, y, rfl, h⟩ := nx_ge l f (k + 1) v x hx
      exact ⟨a, y, rfl, by omega⟩
theorem nx_sorted (l : List Int) : ∀ (f k : Nat) (v : Int), (nx l f k v).Pairwise (fun x y => x.length = y.length → lx x y = true)
  | 0, _, _ => by simp [nx]
  | f + 1, k, v => by
    rw [nx, List.pairwise_append]
    refine ⟨?_, nx_sorted l f (k + 1) v, fun x hx y hy he => ?_⟩
    · split
      · refine List.pairwise_cons.2 ⟨fun x hx he => ?_, ?_⟩
        · obtain ⟨y, hy, rfl⟩ := List.mem_map.1 hx
          obtain ⟨a, z, rfl, _⟩ := nx_ge l f _ _ y hy
          simp at he
        · rw [List.pairwise_map]
          refine (nx_sorted l f (k + 1) _).imp fun h he => ?_
          rw [lx, if_pos rfl]
          exact h (by simpa using he)
      · simp
    · obtain ⟨a, z, rfl, ha⟩ := nx_ge l f _ _ y hy
      have hx' : ∃ w, x = (k : Int) :: w := by
        split at hx
        · rcases List.mem_cons.1 hx with rfl | hx
          · exact ⟨_, rfl⟩
          · obtain ⟨y, _, rfl⟩ := List.mem_map.1 hx
            exact ⟨_, rfl⟩
        · simp at hx
      obtain ⟨w, rfl⟩ := hx'
      rw [lx, if_neg (by omega)]
      exact decide_eq_true (by omega)
/-- The places that are chosen. -/
def sel (p : Nat → Bool) : Nat → Nat → List Int
  | _, 0 => []
  | k, f + 1 => if p k = true then (k : Int) :: sel p (k + 1) f else sel p (k + 1) f
/-- Their volumes rise. -/
def ris (l : List Int) (p : Nat → Bool) : Int → Nat → Nat → Bool
  | _, _, 0 => true
  | v, k, f + 1 => if p k = true then decide (v < rd l (k : Int)) && ris l p (rd l (k : Int)) (k + 1) f else ris l p v (k + 1) f
theorem sel_congr {p q : Nat → Bool} : ∀ (f k : Nat), (∀ i, k ≤ i → i < k + f → p i = q i) → sel p k f = sel q k f
  | 0, _, _ => rfl
  | f + 1, k, h => by rw [sel, sel, h k (Nat.le_refl _) (by omega), sel_congr f (k + 1) (fun i hi hj => h i (by omega) (by omega))]
theorem ris_congr {l : List Int} {p q : Nat → Bool} : ∀ (f k : Nat) (v : Int), (∀ i, k ≤ i → i < k + f → p i = q i) → ris l p v k f = ris l q v k f
  | 0, _, _, _ => rfl
  | f + 1, k, v, h => by rw [ris, ris, h k (Nat.le_refl _) (by omega), ris_congr f (k + 1) _ (fun i hi hj => h i (by omega) (by omega)), ris_congr f (k + 1) _ (fun i hi hj => h i (by omega) (by omega))]
theorem nx_mem (l : List Int) : ∀ (f k : Nat) (v : Int) (x : List Int), x ∈ [] :: nx l f k v ↔ ∃ p : Nat → Bool, sel p k f = x ∧ ris l p v k f = true
  | 0, k, v, x => by
    constructor
    · intro h
      exact ⟨fun _ => false, by simp [nx] at h; simp [sel, h], rfl⟩
    · rintro ⟨p, rfl, _⟩
      simp [sel]
  | f + 1, k, v, x => by
    constructor
    · intro h
      have h' : x ∈ [] :: nx l f (k + 1) v ∨ (v < rd l (k : Int) ∧ ∃ y, y ∈ [] :: nx l f (k + 1) (rd l (k : Int)) ∧ x = (k : Int) :: y) := by
        rw [nx] at h
        rcases List.mem_cons.1 h with rfl | h
        · exact .inl (by simp)
        · rcases List.mem_append.1 h with h | h
          · split at h
            · rename_i c
              rcases List.mem_cons.1 h with rfl | h
              · exact .inr ⟨c, [], by simp, rfl⟩
              · obtain ⟨y, hy, rfl⟩ := List.mem_map.1 h
                exact .inr ⟨c, y, List.mem_cons_of_mem _ hy, rfl⟩
            · simp at h
          · exact .inl (List.mem_cons_of_mem _ h)
      rcases h' with h' | ⟨c, y, hy, rfl⟩
      · obtain ⟨p, h1, h2⟩ := (nx_mem l f (k + 1) v x).1 h'
        refine ⟨fun i => if i = k then false else p i, ?_, ?_⟩
        · rw [sel, if_neg (by simp)]
          exact (sel_congr f (k + 1) (fun i hi _ => by rw [if_neg (by omega)])).trans h1
        · rw [ris, if_neg (by simp)]
          exact (ris_congr f (k + 1) v (fun i hi _ => by rw [if_neg (by omega)])).trans h2
      · obtain ⟨p, h1, h2⟩ := (nx_mem l f (k + 1) (rd l (k : Int)) y).1 hy
        refine ⟨fun i => if i = k then true else p i, ?_, ?_⟩
        · rw [sel, if_pos (by simp)]
          congr 1
          exact (sel_congr f (k + 1) (fun i hi _ => by rw [if_neg (by omega)])).trans h1
        · rw [ris, if_pos (by simp), decide_eq_true c, Bool.true_and]
          exact (ris_congr f (k + 1) (rd l (k : Int)) (fun i hi _ => by rw [if_neg (by omega)])).trans h2
    · rintro ⟨p, h1, h2⟩
      rw [sel] at h1
      rw [ris] at h2
      rw [nx]
      by_cases c : p k = true
      · rw [if_pos c] at h1 h2
        simp only [Bool.and_eq_true, decide_eq_true_eq] at h2
        have := (nx_mem l f (k + 1) (rd l (k : Int)) (sel p (k + 1) f)).2 ⟨p, rfl, h2.2⟩
        rw [if_pos h2.1]
        subst h1
        refine List.mem_cons_of_mem _ (List.mem_append_left _ ?_)
        rcases List.mem_cons.1 this with e | e
        · rw [e]; simp
        · exact List.mem_cons_of_mem _ (List.mem_map.2 ⟨_, e, rfl⟩)
      · rw [if_neg c] at h1 h2
        have := (nx_mem l f (k + 1) v x).2 ⟨p, h1, h2⟩
        rcases List.mem_cons.1 this with e | e
        · rw [e]; simp
        · exact List.mem_cons_of_mem _ (List.mem_append_right _ e)
/-- The search's answer beats each rising list of places, and is one. -/
theorem lp_top (l : List Int) (n : Nat) (v : Int) : Top (impl_stay.lp l n 0 v [] []) (fun x => ∃ p : Nat → Bool, sel p 0 n = x ∧ ris l p v 0 n = true) := by
  have e : impl_stay.lp l n 0 v [] [] = (nx l n 0 v).foldl sup [] := by
    rw [lp_eq]
    have : (nx l n 0 v).map ([] ++ ·) = nx l n 0 v := by simp
    rw [this]
    refine up_top _ _ (List.pairwise_cons.2 ⟨fun x hx he => ?_, nx_sorted l n 0 v⟩)
    obtain ⟨a, y, rfl, _⟩ := nx_ge l n 0 v x hx
    simp at he
  rw [e]
  obtain ⟨h1, h2⟩ := sup_top (nx l n 0 v) []
  exact ⟨(nx_mem l n 0 v _).1 h1, fun x hx => h2 x ((nx_mem l n 0 v x).2 hx)⟩
/-- Each choice of places below n is a number's. -/
theorem bits_of (p : Nat → Bool) : ∀ n : Nat, ∃ b, b < 2 ^ n ∧ ∀ i, i < n → b.testBit i = p i
  | 0 => ⟨0, by simp, fun i hi => by omega⟩
  | n + 1 => by
    obtain ⟨b, hb, h⟩ := bits_of p n
    cases c : p n
    · refine ⟨b, by rw [Nat.pow_succ]; omega, fun i hi => ?_⟩
      by_cases e : i = n
      · subst e
        rw [c]
        exact Nat.testBit_lt_two_pow hb
      · exact h i (by omega)
    · refine ⟨2 ^ n + b, by rw [Nat.pow_succ]; omega, fun i hi => ?_⟩
      by_cases e : i = n
      · subst e
        rw [c, Nat.testBit_two_pow_add_eq, Nat.testBit_lt_two_pow hb]
        rfl
      · rw [Nat.testBit_two_pow_add_gt (by omega)]
        exact h i (by omega)

theorem bit_is : ∀ (b : Fin 256) (i : Fin 8), decide (Go.bits .and .i64 (shr .i64 (b.val : Int) (i.val : Int)) 1 = 1) = b.val.testBit i.val := by decide +kernel
theorem pow_is : ∀ n : Fin 9, shl .i64 1 (n.val : Int) = ((2 ^ n.val : Nat) : Int) := by decide +kernel
theorem bit_at {b i : Nat} (hb : b < 256) (hi : i < 8) : (Go.bits .and .i64 (shr .i64 (b : Int) (i : Int)) 1 = 1) ↔ b.testBit i = true := by
  have := bit_is ⟨b, hb⟩ ⟨i, hi⟩
  simp only at this
  rw [← this]
  simp
/-- What the round of one choice leaves: the best, or the list that is chosen. -/
def pick (l : List Int) (best : List Int) (b : Nat) : List Int := if ris l b.testBit (-1) 0 l.length = true then sup best (sel b.testBit 0 l.length) else best
def Good (l S : List Int) (v : Int) : Prop := (S = [] ∧ v = -1) ∨ ∃ S0 j, S = S0 ++ [((j : Nat) : Int)] ∧ j < l.length ∧ v = rd l (j : Int)
theorem cmp_ev (l best S : List Int) (b : Nat) {r : List Int} (he : S.length = best.length) (h8 : S.length ≤ 8) (hb : b < 256)
    (h : Ev (fun k => spec_shStay.l0 k l (if lx S best = true then S else best) ((b + 1 : Nat) : Int)) r) : ∀ (d i : Nat), i + d = S.length → lx (S.drop i) (best.drop i) = lx S best → Ev (fun k => spec_shStay.l2 k l best (b : Int) S false (i : Int)) r := by
  intro d
  induction d with
  | zero =>
    intro i hi hx
    have e0 : lx S best = false := by rw [← hx, List.drop_of_length_le (by omega)]; rfl
    rw [e0] at h
    refine ev_succ ?_
    simp only [spec_shStay.l2, Bool.false_eq_true, if_false]
    refine ev_succ ?_
    simp only [spec_shStay.j4]
    refine ev_else (by simp; omega) ?_
    simp only [Bool.false_eq_true, if_false]
    rw [w64s (i := b) (by omega)]
    exact h
  | succ d ih =>
    intro i hi hx
    have hs : S.drop i = rd S (i : Int) :: S.drop (i + 1) := by rw [List.drop_eq_getElem_cons (by omega), rd_nat S i (by omega)]
    have hb' : best.drop i = rd best (i : Int) :: best.drop (i + 1) := by rw [List.drop_eq_getElem_cons (by omega), rd_nat best i (by omega)]
    rw [hs, hb', lx] at hx
    refine ev_succ ?_
    simp only [spec_shStay.l2, Bool.false_eq_true, if_false]
    refine ev_succ ?_
    simp only [spec_shStay.j4]
    refine ev_if (by simp; omega) ?_
    refine ev_if (by omega) ?_
    refine ev_if (by omega) ?_
    refine ev_if (by omega) ?_
    by_cases c : rd S (i : Int) = rd best (i : Int)
    · refine ev_if c ?_
      rw [if_pos c] at hx
      rw [w64s (i := i) (by omega)]
      exact ih (i + 1) (by omega) hx
    · refine ev_else c ?_
      rw [if_neg c] at hx
      rw [← hx] at h
      by_cases c2 : rd S (i : Int) < rd best (i : Int)
      · refine ev_if c2 ?_
        rw [decide_eq_true c2, if_pos rfl] at h
        rw [w64s (i := b) (by omega)]
        exact h
      · refine ev_else c2 ?_
        rw [decide_eq_false c2, if_neg (by simp)] at h
        rw [w64s (i := b) (by omega)]
        exact h
theorem end_ev (l best S : List Int) (b : Nat) (rs : Bool) {r : List Int} (h8 : S.length ≤ 8) (hb : b < 256)
    (h : Ev (fun k => spec_shStay.l0 k l (if rs = true then sup best S else best) ((b + 1 : Nat) : Int)) r) :
    Ev (fun k => if rs = true then spec_shStay.j2 k l best (b : Int) S (decide ((S.length : Int) < (best.length : Int))) else spec_shStay.j2 k l best (b : Int) S true) r := by
  cases rs with
  | false =>
    refine ev_else (by simp) ?_
    refine ev_succ ?_
    simp only [spec_shStay.j2, if_true]
    rw [w64s (i := b) (by omega)]
    simpa using h
  | true =>
    refine ev_if rfl ?_
    rw [if_pos rfl] at h
    refine ev_succ ?_
    simp only [spec_shStay.j2]
    by_cases c : S.length < best.length
    · refine ev_if (by simp; omega) ?_
      have e : sup best S = best := by
        unfold sup
        rw [if_neg]
        rw [bet_iff]
        omega
      rw [e] at h
      rw [w64s (i := b) (by omega)]
      exact h
    · refine ev_else (by simp; omega) ?_
      by_cases c2 : best.length < S.length
      · have e : sup best S = S := by
          unfold sup
          rw [if_pos ((bet_iff _ _).2 (.inl c2))]
        rw [e] at h
        rw [decide_eq_true (show (S.length : Int) > (best.length : Int) by omega)]
        refine ev_succ ?_
        simp only [spec_shStay.l2, if_true]
        refine ev_succ ?_
        simp only [spec_shStay.j4, Bool.false_eq_true, if_false, if_true]
        rw [w64s (i := b) (by omega)]
        exact h
      · rw [decide_eq_false (show ¬ (S.length : Int) > (best.length : Int) by omega)]
        refine cmp_ev l best S b (by omega) h8 hb ?_ S.length 0 (by omega) (by simp)
        have e : sup best S = if lx S best = true then S else best := by
          unfold sup
          have : bet S best = lx S best := by
            unfold bet
            rw [decide_eq_false c2, decide_eq_true (show S.length = best.length by omega)]
            simp
          rw [this]
        rw [← e]
        exact h
theorem in_ev (l best : List Int) (b : Nat) {r : List Int} (h8 : l.length ≤ 8) (hb : b < 256) (h0 : ∀ i, i < l.length → 0 ≤ rd l (i : Int)) : ∀ (f i : Nat) (S : List Int) (rs : Bool) (v : Int), i + f = l.length → S.length ≤ i → Good l S v →
    (Ev (fun k => spec_shStay.l0 k l (if (rs && ris l b.testBit v i f) = true then sup best (S ++ sel b.testBit i f) else best) ((b + 1 : Nat) : Int)) r) →
    Ev (fun k => spec_shStay.l1 k l best (b : Int) S rs (l.length : Int) (i : Int)) r := by
  intro f
  induction f with
  | zero =>
    intro i S rs v hi hS hG h
    refine ev_succ ?_
    simp only [spec_shStay.l1]
    refine ev_else (by omega) ?_
    refine end_ev l best S b rs (by omega) hb ?_
    simpa [ris, sel] using h
  | succ f ih =>
    intro i S rs v hi hS hG h
    refine ev_succ ?_
    simp only [spec_shStay.l1]
    refine ev_if (by omega) ?_
    refine ev_if (by omega) ?_
    by_cases c : b.testBit i = true
    · refine ev_if ((bit_at hb (by omega)).2 c) ?_
      rw [ris, sel, if_pos c, if_pos c] at h
      have h' : Ev (fun k => spec_shStay.l0 k l (if (rs && decide (v < rd l (i : Int)) && ris l b.testBit (rd l (i : Int)) (i + 1) f) = true then sup best ((S ++ [(i : Int)]) ++ sel b.testBit (i + 1) f) else best) ((b + 1 : Nat) : Int)) r := by
        rw [Bool.and_assoc, List.append_assoc]
        exact h
      have nx : Ev (fun k => spec_shStay.l1 k l best (b : Int) (S ++ [(i : Int)]) (rs && decide (v < rd l (i : Int))) (l.length : Int) ((i + 1 : Nat) : Int)) r :=
        ih (i + 1) (S ++ [(i : Int)]) (rs && decide (v < rd l (i : Int))) (rd l (i : Int)) (by omega) (by rw [List.length_append, List.length_singleton]; omega) (.inr ⟨S, i, rfl, by omega, rfl⟩) h'
      rw [w64s (i := i) (by omega)]
      cases rs with
      | false =>
        refine ev_else (by simp) ?_
        refine ev_if (by omega) ?_
        exact nx
      | true =>
        refine ev_if rfl ?_
        rw [Bool.true_and] at nx
        rcases hG with ⟨rfl, rfl⟩ | ⟨S0, j, rfl, hj, rfl⟩
        · refine ev_if (by simp) ?_
          refine ev_if (by simp) ?_
          rw [decide_eq_true (show -1 < rd l (i : Int) by have := h0 i (by omega); omega)] at nx
          exact nx
        · have hlen : (S0 ++ [(j : Int)]).length = S0.length + 1 := by simp
          have hw : wrap64 (((S0 ++ [(j : Int)]).length : Int) - 1) = (S0.length : Int) := by rw [hlen, w64 (by omega) (by omega)]; omega
          have hrd : rd (S0 ++ [(j : Int)]) (S0.length : Int) = (j : Int) := by
            rw [rd_nat _ _ (by omega), List.getElem_append_right (by omega)]
            simp
          refine ev_else (by omega) ?_
          rw [hw, hrd]
          refine ev_if (by omega) ?_
          refine ev_if (by omega) ?_
          refine ev_if (by omega) ?_
          refine ev_if (by omega) ?_
          refine ev_if (by omega) ?_
          refine ev_if (by omega) ?_
          exact nx
    · refine ev_else (fun q => c ((bit_at hb (by omega)).1 q)) ?_
      rw [ris, sel, if_neg c, if_neg c] at h
      rw [w64s (i := i) (by omega)]
      exact ih (i + 1) S rs v (by omega) (by omega) hG h
theorem out_ev (l : List Int) (h8 : l.length ≤ 8) (h0 : ∀ i, i < l.length → 0 ≤ rd l (i : Int)) : ∀ (d b : Nat) (best : List Int), b + d = 2 ^ l.length → Ev (fun k => spec_shStay.l0 k l best (b : Int)) ((List.range' b d).foldl (pick l) best) := by
  have hp : 2 ^ l.length ≤ 256 := by
    have : 2 ^ l.length ≤ 2 ^ 8 := Nat.pow_le_pow_right (by omega) h8
    omega
  have hs := pow_is ⟨l.length, by omega⟩
  simp only at hs
  intro d
  induction d with
  | zero =>
    intro b best hb
    refine ev_succ ?_
    simp only [spec_shStay.l0]
    refine ev_else (by rw [hs]; omega) ?_
    exact Ev.now _
  | succ d ih =>
    intro b best hb
    refine ev_succ ?_
    simp only [spec_shStay.l0]
    refine ev_if (by rw [hs]; omega) ?_
    refine in_ev l best b h8 (by omega) h0 l.length 0 [] true (-1) (by omega) (Nat.le_refl _) (.inl ⟨rfl, rfl⟩) ?_
    rw [List.range'_succ, List.foldl_cons]
    have := ih (b + 1) (pick l best b) (by omega)
    simpa [pick] using this
theorem fold_pick (l : List Int) : ∀ (bs : List Nat) (best : List Int), bs.foldl (pick l) best = ((bs.filter fun b => ris l b.testBit (-1) 0 l.length).map fun b => sel b.testBit 0 l.length).foldl sup best
  | [], _ => rfl
  | b :: bs, best => by
    rw [List.foldl_cons, fold_pick l bs]
    unfold pick
    cases c : ris l b.testBit (-1) 0 l.length
    · simp [c]
    · simp [c]
theorem sel_none : ∀ (f k : Nat), sel (fun _ => false) k f = []
  | 0, _ => rfl
  | f + 1, k => by rw [sel, if_neg (by simp), sel_none f (k + 1)]
theorem ris_none (l : List Int) : ∀ (f k : Nat) (v : Int), ris l (fun _ => false) v k f = true
  | 0, _, _ => rfl
  | f + 1, k, v => by rw [ris, if_neg (by simp), ris_none l f (k + 1) v]
theorem spec_shStay_ev (l : List Int) (h8 : l.length ≤ 8) (h0 : ∀ i, i < l.length → 0 ≤ rd l (i : Int)) : Ev (fun k => spec_shStay.f k l) (impl_stay.lp l l.length 0 (-1) [] []) := by
  have h := out_ev l h8 h0 (2 ^ l.length) 0 [] (by omega)
  have e : (List.range' 0 (2 ^ l.length)).foldl (pick l) [] = impl_stay.lp l l.length 0 (-1) [] [] := by
    rw [fold_pick]
    refine Top.one (P := fun x => ∃ p : Nat → Bool, sel p 0 l.length = x ∧ ris l p (-1) 0 l.length = true) ?_ (lp_top l l.length (-1))
    obtain ⟨h1, h2⟩ := sup_top (((List.range' 0 (2 ^ l.length)).filter fun b => ris l b.testBit (-1) 0 l.length).map fun b => sel b.testBit 0 l.length) []
    refine ⟨?_, fun x hx => h2 x ?_⟩
    · rcases List.mem_cons.1 h1 with h1 | h1
      · rw [h1]
        exact ⟨fun _ => false, sel_none _ _, ris_none _ _ _ _⟩
      · obtain ⟨b, hb, hx⟩ := List.mem_map.1 h1
        exact ⟨b.testBit, hx, (List.mem_filter.1 hb).2⟩
    · obtain ⟨p, rfl, hr⟩ := hx
      obtain ⟨b, hb, hp⟩ := bits_of p l.length
      refine List.mem_cons_of_mem _ (List.mem_map.2 ⟨b, List.mem_filter.2 ⟨by rw [List.mem_range'_1]; omega, ?_⟩, ?_⟩)
      · rw [← hr]
        exact ris_congr _ _ _ (fun i _ hi => hp i (by omega))
      · exact sel_congr _ _ (fun i _ hi => hp i (by omega))
  rw [e] at h
  exact h

theorem impl_stay_is (l : List Int) (h8 : l.length ≤ 8) : impl_stay.f l = some (impl_stay.lp l l.length 0 (-1) [] []) := by unfold impl_stay.f; rw [if_pos h8]
theorem st_pos {l : List Int} (h : stOk l = true) : l.length ≤ 8 ∧ ∀ i, i < l.length → 0 ≤ rd l (i : Int) := by
  obtain ⟨_, h8, hW⟩ := stOk_whole h
  refine ⟨h8, fun i hi => ?_⟩
  have := (once_of_whole hW i hi).1.1
  rw [rd_nat l i hi]
  exact this
theorem sel_len (p : Nat → Bool) : ∀ (f k : Nat), (sel p k f).length ≤ f
  | 0, _ => Nat.le_refl _
  | f + 1, k => by
    rw [sel]
    have := sel_len p f (k + 1)
    split
    · rw [List.length_cons]; omega
    · omega
theorem stay_len (l : List Int) : (impl_stay.lp l l.length 0 (-1) [] []).length ≤ l.length := by
  obtain ⟨⟨p, h, _⟩, _⟩ := lp_top l l.length (-1)
  rw [← h]
  exact sel_len p l.length 0

theorem same (l : List Int) (hl : l.length ≤ 1048576) (hw : ∀ x ∈ l, (Lit.int .i64 x).wf = true) : ∃ r, Ev (fun k => spec_FirstStay.f k l) r ∧ Ev (fun k => impl_FirstStay.f k l) r ∧ r.1.length ≤ 1048576 := by
  simp only [spec_FirstStay.f, impl_FirstStay.f]
  by_cases a : stOk l = true
  · obtain ⟨h8, h0⟩ := st_pos a
    refine ⟨(impl_stay.lp l l.length 0 (-1) [] [], true), Ev.bind (spec_shStands_ev l hl) ?_, Ev.bind (impl_IsStanding_ev l hl) ?_, Nat.le_trans (stay_len l) hl⟩
    · simp only [a, if_true]
      refine Ev.bind (spec_shStay_ev l h8 h0) ?_
      exact Ev.now _
    · simp only [a, if_true]
      refine ev_some (impl_stay_is l h8) ?_
      exact Ev.now _
  · refine ⟨([], false), Ev.bind (spec_shStands_ev l hl) ?_, Ev.bind (impl_IsStanding_ev l hl) ?_, by simp⟩
    all_goals
      simp only [a, Bool.false_eq_true, if_false]
      exact Ev.now _
theorem FnExactFirstStay : laws_FnExactFirstStay.Pure := by
  intro l0  hm h8 hw 
  refine Ev.rounds (r := true) ?_
  by_cases hl : (l0.length : Int) > 1048576
  · simp only [laws_FnExactFirstStay.f, if_pos hl]
    exact Ev.now _
  · have hl' : l0.length ≤ 1048576 := by omega
    obtain ⟨r, h1, h2, hr⟩ := same l0  hl' hw 
    simp only [laws_FnExactFirstStay.f, if_neg hl]
    repeat (first
      | exact Ev.now _
      | (dsimp only)
      | (with_reducible refine Ev.bind h1 ?_)
      | (with_reducible refine Ev.bind h2 ?_)
      | (with_reducible refine Ev.bind (laws_toIntS_ev _ (by omega)) ?_)
      | (with_reducible refine Ev.bind (laws_eqIntS_ev _ _ (by omega)) ?_)
      | (with_reducible refine Ev.bind (laws_markIntS_ev _ (by omega)) ?_)
      | (with_reducible refine Ev.bind (laws_heldIntS_ev _ (by omega)) ?_)
      | (simp only [decide_true, if_true, bne_self_eq_false, Bool.false_eq_true, if_false, neg_no])
      | (refine ev_succ ?_; simp only [laws_FnExactFirstStay.j0, laws_FnExactFirstStay.j1, laws_FnExactFirstStay.j2]))

end Go.Proofs.Ytlolifijdeenjaa.Pure
