/- The plain law behind FnExactFewestSwaps, in lists and numbers alone: the program's and the reference's fewest exchanges are one. No condition beyond the printed bounds. -/
import Derived.Test.YtlolifijdeenjaaXFnExactFewestSwapsx3
set_option linter.unusedVariables false
set_option linter.unusedSimpArgs false
namespace Go.Proofs.Ytlolifijdeenjaa.Pure
open Go.RowKit Go.Proofs.Ytlolifijdeenjaa.XFnExactFewestSwaps Go.Proofs.YtlolifijdeenjaaW.PrintWords Go.Proofs.YtlolifijdeenjaaW.PrintLast Go.Proofs.YtlolifijdeenjaaW.PrintMore
/-! ### Small words: rounds, reads, sums without a wrap. -/
theorem ev_some {α β : Type} {g : Option α} {f : Nat → α → Option β} {a : α} {r : β} (h : g = some a) (k : Ev (fun n => f n a) r) : Ev (fun n => g.bind (f n)) r := by
  subst h
  exact k
theorem ev_ret {α : Type} {r s : α} (h : r = s) : Ev (fun _ => some r) s := by
  subst h
  exact Ev.now r
theorem ev_map {α β : Type} {g : Nat → Option α} {f : α → β} {a : α} {r : β} (h : Ev g a) (e : f a = r) : Ev (fun n => (g n).bind fun t => some (f t)) r := Ev.bind h (ev_ret e)
theorem ev_eq {α : Type} {g f : Nat → Option α} {r : α} (h : g = f) (k : Ev f r) : Ev g r := by
  rw [h]
  exact k
theorem w64 {x : Int} (h0 : -9223372036854775808 ≤ x) (h1 : x ≤ 9223372036854775807) : wrap64 x = x := by
  unfold wrap64
  omega
theorem w64s {i : Nat} (h : i < 4611686018427387904) : wrap64 ((i : Int) + 1) = ((i + 1 : Nat) : Int) := by
  rw [w64 (by omega) (by omega)]
  rfl
theorem rd_nat (l : List Int) (i : Nat) (h : i < l.length) : rd l (i : Int) = l[i] := by
  unfold rd
  rw [Int.toNat_natCast, List.getD_eq_getElem?_getD, List.getElem?_eq_getElem h]
  rfl
theorem wf_i64 {x : Int} (h : (Lit.int .i64 x).wf = true) : -9223372036854775808 ≤ x ∧ x ≤ 9223372036854775807 := by
  simp only [Lit.wf, Bool.and_eq_true, decide_eq_true_eq] at h
  exact h
theorem ev_succ {α : Type} {g : Nat → Option α} {r : α} (h : Ev (fun k => g (k + 1)) r) : Ev g r := Ev.step (fun _ => rfl) h
theorem neg_no (n : Nat) : ¬ (1 + (n : Int) < 0) := by omega
theorem ev_if {α : Type} {c : Prop} [Decidable c] {g f : Nat → Option α} {r : α} (h : c) (k : Ev g r) : Ev (fun n => if c then g n else f n) r := Ev.congr (fun _ => if_pos h) k
theorem ev_else {α : Type} {c : Prop} [Decidable c] {g f : Nat → Option α} {r : α} (h : ¬ c) (k : Ev f r) : Ev (fun n => if c then g n else f n) r := Ev.congr (fun _ => if_neg h) k

theorem set_app {α : Type} (a b : List α) (x y : α) (n : Nat) (h : n = a.length) : (a ++ x :: b).set n y = a ++ y :: b := by
  subst h
  simp

theorem laws_toIntS_ev (l : List Int) (hl : l.length ≤ 1048576) : Ev (fun k => laws_toIntS.f k l) l := by
  have key : ∀ (d i : Nat), i + d = l.length → Ev (fun k => laws_toIntS.l0 k l (l.take i ++ List.replicate d 0) (i : Int)) l := by
    intro d
    induction d with
    | zero =>
      intro i h
      refine ev_succ ?_
      simp only [laws_toIntS.l0]
      refine ev_else (by omega) ?_
      refine ev_ret ?_
      rw [List.take_of_length_le (by omega)]
      simp
    | succ d ih =>
      intro i h
      have hi' : i < l.length := by omega
      refine Ev.step (f := fun k => laws_toIntS.l0 k l (l.take (i + 1) ++ List.replicate d 0) ((i + 1 : Nat) : Int)) (fun k => ?_) (ih (i + 1) (by omega))
      simp only [laws_toIntS.l0]
      rw [if_pos (by omega), if_pos (by omega), if_pos (by simp; omega), rd_nat l i hi', w64s (by omega), Int.toNat_natCast, List.replicate_succ, set_app _ _ _ _ _ (by simp; omega), List.take_succ_eq_append_getElem hi']
      simp only [List.append_assoc, List.cons_append, List.nil_append]
  refine ev_eq (f := fun k => laws_toIntS.l0 k l (l.take 0 ++ List.replicate l.length 0) ((0 : Nat) : Int)) ?_ (key l.length 0 (by omega))
  funext k
  simp only [laws_toIntS.f]
  rw [if_pos (by omega), if_pos (by omega)]
  simp

theorem laws_eqIntS_ev (a b : List Int) (hl : a.length ≤ 4611686018427387903) : Ev (fun k => laws_eqIntS.f k a b) (decide (a = b)) := by
  by_cases hlen : a.length = b.length
  · have key : ∀ (d i : Nat), i + d = a.length → Ev (fun k => laws_eqIntS.l0 k a b (i : Int)) (decide (a.drop i = b.drop i)) := by
      intro d
      induction d with
      | zero =>
        intro i h
        rw [List.drop_eq_nil_of_le (by omega), List.drop_eq_nil_of_le (by omega)]
        refine ev_succ ?_
        simp only [laws_eqIntS.l0]
        refine ev_else (by omega) ?_
        exact ev_ret (by simp)
      | succ d ih =>
        intro i h
        have h1 : i < a.length := by omega
        have h2 : i < b.length := by omega
        rw [List.drop_eq_getElem_cons h1, List.drop_eq_getElem_cons h2]
        refine Ev.step (f := fun k => if a[i] = b[i] then laws_eqIntS.l0 k a b ((i + 1 : Nat) : Int) else some false) (fun k => by simp only [laws_eqIntS.l0]; rw [if_pos (by omega), if_pos (by omega), if_pos (by omega), rd_nat a i h1, rd_nat b i h2, w64s (by omega)]) ?_
        by_cases c : a[i] = b[i]
        · simp only [c, if_true, List.cons.injEq, true_and]
          exact ih (i + 1) (by omega)
        · simp only [c, if_false, List.cons.injEq, false_and, decide_false]
          exact Ev.now _
    refine ev_eq (f := fun k => laws_eqIntS.l0 k a b ((0 : Nat) : Int)) ?_ (key a.length 0 (by omega))
    funext k
    simp only [laws_eqIntS.f]
    rw [if_pos (by omega)]
    rfl
  · refine ev_eq (f := fun _ => some false) ?_ (ev_ret (by simp; intro h; exact hlen (by rw [h])))
    funext k
    simp only [laws_eqIntS.f]
    rw [if_neg (by omega)]

theorem spec_l1In_eq (x lo hi : Int) : spec_l1In.f x lo hi = some (decide (lo ≤ x ∧ x ≤ hi)) := by
  unfold spec_l1In.f
  by_cases c : x ≥ lo
  · rw [if_pos c]
    congr 1
    simp only [c, true_and]
  · rw [if_neg c]
    congr 1
    exact (decide_eq_false (fun h => c h.1)).symm

theorem impl_within_eq (x lo hi : Int) : impl_within.f x lo hi = some (decide (lo ≤ x ∧ x ≤ hi)) := by
  unfold impl_within.f
  by_cases c : x ≥ lo
  · rw [if_pos c]
    congr 1
    simp only [c, true_and]
  · rw [if_neg c]
    congr 1
    exact (decide_eq_false (fun h => c h.1)).symm

theorem slices_Index_ev (l : List Int) (x : Int) (j : Nat) (hj : j < l.length) (hl : l.length ≤ 1048576) (hx : rd l (j : Int) = x) (hn : ∀ i, i < j → rd l (i : Int) ≠ x) : Ev (fun k => slices_Index_int_int.f k l x) ((j : Nat) : Int) := by
  have key : ∀ (d i : Nat), i + d = j → Ev (fun k => slices_Index_int_int.l0 k l x (l.length : Int) (i : Int)) ((j : Nat) : Int) := by
    intro d
    induction d with
    | zero =>
      intro i h
      obtain rfl : i = j := by omega
      refine ev_succ ?_
      simp only [slices_Index_int_int.l0]
      refine ev_if (by omega) ?_
      refine ev_if (by omega) ?_
      refine ev_if (by omega) ?_
      refine ev_if hx.symm ?_
      exact Ev.now _
    | succ d ih =>
      intro i h
      refine ev_succ ?_
      simp only [slices_Index_int_int.l0]
      refine ev_if (by omega) ?_
      refine ev_if (by omega) ?_
      refine ev_if (by omega) ?_
      refine ev_else (fun e => hn i (by omega) e.symm) ?_
      rw [w64s (by omega)]
      exact ih (i + 1) (by omega)
  exact key j 0 (by omega)
theorem slices_Index_none (l : List Int) (x : Int) (hl : l.length ≤ 1048576) (hn : ∀ i, i < l.length → rd l (i : Int) ≠ x) : Ev (fun k => slices_Index_int_int.f k l x) (-1) := by
  have key : ∀ (d i : Nat), i + d = l.length → Ev (fun k => slices_Index_int_int.l0 k l x (l.length : Int) (i : Int)) (-1) := by
    intro d
    induction d with
    | zero =>
      intro i h
      refine ev_succ ?_
      simp only [slices_Index_int_int.l0]
      refine ev_else (by omega) ?_
      exact Ev.now _
    | succ d ih =>
      intro i h
      refine ev_succ ?_
      simp only [slices_Index_int_int.l0]
      refine ev_if (by omega) ?_
      refine ev_if (by omega) ?_
      refine ev_if (by omega) ?_
      refine ev_else (fun e => hn i (by omega) e.symm) ?_
      rw [w64s (by omega)]
      exact ih (i + 1) (by omega)
  exact key l.length 0 (by omega)

theorem sub_length : ∀ (l L : List Int), l.Nodup → (∀ x ∈ l, x ∈ L) → l.length ≤ L.length
  | [], _, _, _ => Nat.zero_le _
  | x :: l, L, hn, h => by
    have hx := h x List.mem_cons_self
    have hn' := List.nodup_cons.1 hn
    have h1 := sub_length l (L.erase x) hn'.2 (fun y hy => by
      refine (List.mem_erase_of_ne ?_).2 (h y (List.mem_cons_of_mem _ hy))
      rintro rfl
      exact hn'.1 hy)
    have h2 := List.length_erase_of_mem hx
    have h3 : 0 < L.length := List.length_pos_of_mem hx
    simp only [List.length_cons]
    omega
def upTo (n : Nat) : List Int := (List.range n).map fun (j : Nat) => (j : Int)
theorem mem_upTo {n : Nat} {x : Int} : x ∈ upTo n ↔ 0 ≤ x ∧ x < n := by
  unfold upTo
  rw [List.mem_map]
  constructor
  · rintro ⟨j, h1, rfl⟩
    have := List.mem_range.1 h1
    omega
  · rintro ⟨h1, h2⟩
    exact ⟨x.toNat, List.mem_range.2 (by omega), by omega⟩
theorem upTo_len (n : Nat) : (upTo n).length = n := by simp [upTo]
theorem upTo_nodup (n : Nat) : (upTo n).Nodup := by
  unfold upTo
  refine List.Pairwise.map _ ?_ List.nodup_range
  intro a b h e
  exact h (by omega)
/-- A list that has each number below its length. -/
def Whole (l : List Int) : Prop := ∀ i, i < l.length → (i : Int) ∈ l
/-- A list of numbers below its length, each once. -/
def Once (l : List Int) : Prop := ∀ i (h : i < l.length), (0 ≤ l[i] ∧ l[i] ≤ (l.length : Int) - 1) ∧ l[i] ∉ l.take i
theorem whole_drop {l : List Int} (h : Whole l) (i : Nat) (hi : i < l.length) (hs : ∀ v ∈ upTo l.length, v ∈ l.eraseIdx i) : False := by
  have h1 := sub_length _ _ (upTo_nodup l.length) hs
  rw [upTo_len, List.length_eraseIdx_of_lt hi] at h1
  omega
theorem once_of_whole {l : List Int} (h : Whole l) : Once l := by
  have hall : ∀ v ∈ upTo l.length, ∃ j, ∃ hj : j < l.length, l[j] = v := by
    intro v hv
    have h1 := mem_upTo.1 hv
    have h2 := h v.toNat (by omega)
    rw [Int.toNat_of_nonneg h1.1] at h2
    obtain ⟨j, hj, e⟩ := List.getElem_of_mem h2
    exact ⟨j, hj, e⟩
  intro i hi
  constructor
  · by_cases c : 0 ≤ l[i] ∧ l[i] ≤ (l.length : Int) - 1
    · exact c
    · refine (whole_drop h i hi (fun v hv => ?_)).elim
      obtain ⟨j, hj, e⟩ := hall v hv
      have hv' := mem_upTo.1 hv
      refine List.mem_eraseIdx_iff_getElem.2 ⟨j, hj, ?_, e⟩
      rintro rfl
      omega
  · intro hm
    obtain ⟨j, hj, e⟩ := List.getElem_of_mem hm
    rw [List.length_take] at hj
    rw [List.getElem_take] at e
    refine whole_drop h i hi (fun v hv => ?_)
    obtain ⟨t, ht, e2⟩ := hall v hv
    by_cases c : t = i
    · subst c
      exact List.mem_eraseIdx_iff_getElem.2 ⟨j, by omega, by omega, e.trans e2⟩
    · exact List.mem_eraseIdx_iff_getElem.2 ⟨t, ht, c, e2⟩
theorem once_inj {l : List Int} (h : Once l) {i j : Nat} (hi : i < l.length) (hj : j < l.length) (e : l[i] = l[j]) : i = j := by
  have key : ∀ (a b : Nat) (ha : a < l.length) (hb : b < l.length), a < b → l[a] ≠ l[b] := by
    intro a b ha hb hab e
    refine (h b hb).2 ?_
    rw [← e]
    have : (l.take b)[a]'(by rw [List.length_take]; omega) = l[a] := List.getElem_take
    rw [← this]
    exact List.getElem_mem _
  rcases Nat.lt_trichotomy i j with c | c | c
  · exact (key i j hi hj c e).elim
  · exact c
  · exact (key j i hj hi c e.symm).elim
theorem nodup_of_once {l : List Int} (h : Once l) : l.Nodup := by
  rw [List.nodup_iff_pairwise_ne, List.pairwise_iff_getElem]
  intro i j hi hj hij e
  exact absurd (once_inj h hi hj e) (by omega)
theorem whole_of_once {l : List Int} (h : Once l) : Whole l := by
  intro i hi
  by_cases c : (i : Int) ∈ l
  · exact c
  · have h1 := sub_length l ((upTo l.length).erase (i : Int)) (nodup_of_once h) (fun x hx => by
      obtain ⟨j, hj, rfl⟩ := List.getElem_of_mem hx
      have h2 := (h j hj).1
      refine (List.mem_erase_of_ne ?_).2 (mem_upTo.2 ⟨h2.1, by omega⟩)
      intro e
      exact c (e ▸ hx))
    rw [List.length_erase_of_mem (mem_upTo.2 ⟨by omega, by omega⟩), upTo_len] at h1
    omega
def allIn (l : List Int) : Bool := (List.range l.length).all fun i => decide ((i : Int) ∈ l)
theorem allIn_iff (l : List Int) : allIn l = true ↔ Whole l := by
  unfold allIn Whole
  rw [List.all_eq_true]
  simp only [List.mem_range, decide_eq_true_eq]
def stOk (l : List Int) : Bool := decide (1 ≤ (l.length : Int) ∧ (l.length : Int) ≤ 8) && allIn l
theorem stOk_whole {l : List Int} (h : stOk l = true) : 1 ≤ l.length ∧ l.length ≤ 8 ∧ Whole l := by
  simp only [stOk, Bool.and_eq_true, decide_eq_true_eq, allIn_iff] at h
  exact ⟨by omega, by omega, h.2⟩
theorem spec_l1Has_ev (l : List Int) (x : Int) (hl : l.length ≤ 1048576) : Ev (fun k => spec_l1Has.f k l x) (decide (x ∈ l)) := by
  have key : ∀ (d i : Nat), i + d = l.length → Ev (fun k => spec_l1Has.l0 k x l (l.length : Int) (i : Int)) (decide (x ∈ l.drop i)) := by
    intro d
    induction d with
    | zero =>
      intro i h
      rw [List.drop_eq_nil_of_le (by omega)]
      refine ev_succ ?_
      simp only [spec_l1Has.l0]
      refine ev_else (by omega) ?_
      exact ev_ret (by simp)
    | succ d ih =>
      intro i h
      have h1 : i < l.length := by omega
      rw [List.drop_eq_getElem_cons h1]
      refine ev_succ ?_
      simp only [spec_l1Has.l0]
      refine ev_if (by omega) ?_
      refine ev_if (by omega) ?_
      refine ev_if (by omega) ?_
      rw [rd_nat l i h1]
      by_cases c : l[i] = x
      · refine ev_if c ?_
        exact ev_ret (decide_eq_true (by rw [c]; exact List.mem_cons_self)).symm
      · refine ev_else c ?_
        rw [w64s (by omega)]
        have e : decide (x ∈ l[i] :: l.drop (i + 1)) = decide (x ∈ l.drop (i + 1)) := by
          refine decide_eq_decide.2 ?_
          rw [List.mem_cons]
          exact ⟨fun h => h.resolve_left (fun e => c e.symm), .inr⟩
        rw [e]
        exact ih (i + 1) (by omega)
  exact key l.length 0 (by omega)
theorem first_is (l : List Int) (x : Int) : (∀ i, i < l.length → rd l (i : Int) ≠ x) ∨ ∃ j, j < l.length ∧ rd l (j : Int) = x ∧ ∀ i, i < j → rd l (i : Int) ≠ x := by
  have key : ∀ n, n ≤ l.length → (∀ i, i < n → rd l (i : Int) ≠ x) ∨ ∃ j, j < n ∧ rd l (j : Int) = x ∧ ∀ i, i < j → rd l (i : Int) ≠ x := by
    intro n
    induction n with
    | zero => exact fun _ => .inl (fun i hi => by omega)
    | succ n ih =>
      intro h
      rcases ih (by omega) with a | ⟨j, a, b, c⟩
      · by_cases e : rd l (n : Int) = x
        · exact .inr ⟨n, by omega, e, a⟩
        · refine .inl (fun i hi => ?_)
          by_cases f : i = n
          · subst f
            exact e
          · exact a i (by omega)
      · exact .inr ⟨j, by omega, b, c⟩
  exact key l.length (Nat.le_refl _)
theorem mem_rd {l : List Int} {x : Int} : x ∈ l ↔ ∃ j, j < l.length ∧ rd l (j : Int) = x := by
  constructor
  · intro h
    obtain ⟨j, hj, e⟩ := List.getElem_of_mem h
    exact ⟨j, hj, by rw [rd_nat l j hj]; exact e⟩
  · rintro ⟨j, hj, e⟩
    rw [rd_nat l j hj] at e
    rw [← e]
    exact List.getElem_mem _
theorem slices_Contains_ev (l : List Int) (x : Int) (hl : l.length ≤ 1048576) : Ev (fun k => slices_Contains_int_int.f k l x) (decide (x ∈ l)) := by
  simp only [slices_Contains_int_int.f]
  rcases first_is l x with h | ⟨j, h1, h2, h3⟩
  · refine ev_map (slices_Index_none l x hl h) ?_
    rw [decide_eq_false (by omega), decide_eq_false]
    intro hm
    obtain ⟨j, hj, e⟩ := mem_rd.1 hm
    exact h j hj e
  · refine ev_map (slices_Index_ev l x j h1 hl h2 h3) ?_
    rw [decide_eq_true (by omega), decide_eq_true (mem_rd.2 ⟨j, h1, h2⟩)]
theorem impl_isOrder_ev (l : List Int) (hl : l.length ≤ 1048576) : Ev (fun k => impl_isOrder.f k l (l.length : Int)) (allIn l) := by
  have key : ∀ (d i : Nat), i + d = l.length → (∀ j, j < i → (j : Int) ∈ l) → Ev (fun k => impl_isOrder.l0 k l (l.length : Int) (l.length : Int) (i : Int)) (allIn l) := by
    intro d
    induction d with
    | zero =>
      intro i h hi
      refine ev_succ ?_
      simp only [impl_isOrder.l0]
      refine ev_else (by omega) ?_
      refine ev_ret ?_
      rw [(allIn_iff l).2 (fun j hj => hi j (by omega))]
      simp
    | succ d ih =>
      intro i h hi
      refine ev_succ ?_
      simp only [impl_isOrder.l0]
      refine ev_if (by omega) ?_
      refine Ev.bind (slices_Contains_ev l (i : Int) hl) ?_
      by_cases c : (i : Int) ∈ l
      · simp only [c, decide_true, if_true]
        rw [w64s (by omega)]
        refine ih (i + 1) (by omega) (fun j hj => ?_)
        by_cases e : j = i
        · subst e
          exact c
        · exact hi j (by omega)
      · simp only [c, decide_false, Bool.false_eq_true, if_false]
        refine ev_ret ?_
        refine (Bool.eq_false_iff.2 (fun h1 => ?_)).symm
        exact c ((allIn_iff l).1 h1 i (by omega))
  exact key l.length 0 (by omega) (fun j hj => by omega)
theorem impl_IsStanding_ev (l : List Int) (hl : l.length ≤ 1048576) : Ev (fun k => impl_IsStanding.f k l) (stOk l) := by
  simp only [impl_IsStanding.f, stOk]
  refine ev_some (impl_within_eq _ _ _) ?_
  by_cases c : 1 ≤ (l.length : Int) ∧ (l.length : Int) ≤ 8
  · simp only [c, and_self, decide_true, if_true, Bool.true_and]
    exact ev_map (impl_isOrder_ev l hl) rfl
  · simp only [c, decide_false, Bool.false_and, Bool.false_eq_true, if_false]
    exact Ev.now _
theorem spec_shStands_ev (l : List Int) (hl : l.length ≤ 1048576) : Ev (fun k => spec_shStands.f k l) (stOk l) := by
  have key : ∀ (d i : Nat), i + d = l.length → (∀ j (h : j < l.length), j < i → (0 ≤ l[j] ∧ l[j] ≤ (l.length : Int) - 1) ∧ l[j] ∉ l.take j) → Ev (fun k => spec_shStands.l0 k l l (l.length : Int) (i : Int)) (allIn l) := by
    intro d
    induction d with
    | zero =>
      intro i h hi
      refine ev_succ ?_
      simp only [spec_shStands.l0]
      refine ev_else (by omega) ?_
      refine ev_ret ?_
      exact ((allIn_iff l).2 (whole_of_once (fun j hj => hi j hj (by omega)))).symm
    | succ d ih =>
      intro i h hi
      have h1 : i < l.length := by omega
      have hno : ¬ ((0 ≤ l[i] ∧ l[i] ≤ (l.length : Int) - 1) ∧ l[i] ∉ l.take i) → false = allIn l := by
        intro hc
        refine (Bool.eq_false_iff.2 (fun h2 => ?_)).symm
        exact hc (once_of_whole ((allIn_iff l).1 h2) i h1)
      refine ev_succ ?_
      simp only [spec_shStands.l0]
      refine ev_if (by omega) ?_
      refine ev_if (by omega) ?_
      refine ev_if (by omega) ?_
      rw [w64 (x := (l.length : Int) - 1) (by omega) (by omega), rd_nat l i h1]
      refine ev_some (spec_l1In_eq _ _ _) ?_
      by_cases c : 0 ≤ l[i] ∧ l[i] ≤ (l.length : Int) - 1
      · simp only [c, and_self, decide_true, if_true]
        refine ev_if (by omega) ?_
        rw [Int.toNat_natCast]
        refine Ev.bind (spec_l1Has_ev _ _ (by rw [List.length_take]; omega)) ?_
        by_cases e : l[i] ∈ l.take i
        · simp only [e, decide_true, if_true]
          exact ev_ret (hno (fun hh => hh.2 e))
        · simp only [e, decide_false, Bool.false_eq_true, if_false]
          rw [w64s (by omega)]
          refine ih (i + 1) (by omega) (fun j hj hji => ?_)
          by_cases f : j = i
          · subst f
            exact ⟨c, e⟩
          · exact hi j hj (by omega)
      · simp only [c, decide_false, Bool.false_eq_true, if_false]
        exact ev_ret (hno (fun hh => c hh.1))
  simp only [spec_shStands.f, stOk]
  refine ev_some (spec_l1In_eq _ _ _) ?_
  by_cases c : 1 ≤ (l.length : Int) ∧ (l.length : Int) ≤ 8
  · simp only [c, and_self, decide_true, if_true, Bool.true_and]
    exact key l.length 0 (by omega) (fun j hj hji => by omega)
  · simp only [c, decide_false, Bool.false_and, Bool.false_eq_true, if_false]
    exact Ev.now _

theorem countP_lt {α : Type} (p q : α → Bool) : ∀ (L : List α), (∀ x ∈ L, q x = true → p x = true) → (∃ x, x ∈ L ∧ p x = true ∧ q x = false) → L.countP q < L.countP p
  | [], _, h => by
    obtain ⟨x, hx, _⟩ := h
    simp at hx
  | a :: L, h, h2 => by
    have hle : L.countP q ≤ L.countP p := List.countP_mono_left (fun x hx => h x (List.mem_cons_of_mem _ hx))
    have ha := h a List.mem_cons_self
    obtain ⟨x, hx, h3, h4⟩ := h2
    rw [List.countP_cons, List.countP_cons]
    by_cases e : p a = true ∧ q a = false
    · simp only [e.1, e.2, if_true, Bool.false_eq_true, if_false]
      omega
    · have hlt : L.countP q < L.countP p := by
        refine countP_lt p q L (fun x hx => h x (List.mem_cons_of_mem _ hx)) ⟨x, ?_, h3, h4⟩
        rcases List.mem_cons.1 hx with rfl | hx
        · exact absurd ⟨h3, h4⟩ e
        · exact hx
      by_cases f : q a = true
      · simp only [f, ha f, if_true]
        omega
      · simp only [f, Bool.false_eq_true, if_false]
        split <;> omega
def off (l : List Int) : Nat := (List.range l.length).countP fun (j : Nat) => decide (rd l (j : Int) ≠ (j : Int))
theorem rd_set (l : List Int) (a : Nat) (v : Int) (ha : a < l.length) (j : Nat) (hj : j < l.length) : rd (l.set a v) (j : Int) = if a = j then v else rd l (j : Int) := by
  rw [rd_nat _ j (by rw [List.length_set]; exact hj), rd_nat l j hj, List.getElem_set]
theorem swap_ok (l : List Int) (h : Whole l) (i : Nat) (hi : i < l.length) (hne : rd l (i : Int) ≠ (i : Int)) :
    ∃ k : Nat, rd l (i : Int) = (k : Int) ∧ k < l.length ∧ Whole ((l.set i (rd l (k : Int))).set k (k : Int)) ∧ off ((l.set i (rd l (k : Int))).set k (k : Int)) < off l := by
  have ho := once_of_whole h
  have h1 := (ho i hi).1
  have e1 := rd_nat l i hi
  refine ⟨(rd l (i : Int)).toNat, by omega, by omega, ?_⟩
  obtain ⟨k, hk⟩ : ∃ k : Nat, (rd l (i : Int)).toNat = k := ⟨_, rfl⟩
  have hkv : rd l (i : Int) = (k : Int) := by omega
  have hkl : k < l.length := by omega
  have hik : i ≠ k := by
    rintro rfl
    exact hne hkv
  rw [hk]
  have hr : ∀ j, j < l.length → rd ((l.set i (rd l (k : Int))).set k (k : Int)) (j : Int) = if k = j then (k : Int) else if i = j then rd l (k : Int) else rd l (j : Int) := by
    intro j hj
    rw [rd_set _ k _ (by rw [List.length_set]; exact hkl) j (by rw [List.length_set]; exact hj), rd_set l i _ hi j hj]
  have hlen : ((l.set i (rd l (k : Int))).set k (k : Int)).length = l.length := by rw [List.length_set, List.length_set]
  constructor
  · intro v hv
    rw [hlen] at hv
    obtain ⟨j, hj, e⟩ := mem_rd.1 (h v hv)
    by_cases a : j = k
    · subst a
      refine mem_rd.2 ⟨i, by omega, ?_⟩
      rw [hr i hi, if_neg (fun e => hik e.symm), if_pos rfl]
      exact e
    · by_cases b : j = i
      · subst b
        refine mem_rd.2 ⟨k, by omega, ?_⟩
        rw [hr k hkl, if_pos rfl]
        omega
      · refine mem_rd.2 ⟨j, by omega, ?_⟩
        rw [hr j hj, if_neg (fun e => a e.symm), if_neg (fun e => b e.symm)]
        exact e
  · unfold off
    rw [hlen]
    refine countP_lt _ _ _ (fun j hj => ?_) ⟨k, List.mem_range.2 hkl, ?_, ?_⟩
    · have hj := List.mem_range.1 hj
      rw [hr j hj]
      simp only [decide_eq_true_eq]
      intro hne2
      by_cases a : k = j
      · rw [if_pos a, a] at hne2
        exact absurd rfl hne2
      · rw [if_neg a] at hne2
        by_cases b : i = j
        · subst b
          exact hne
        · rw [if_neg b] at hne2
          exact hne2
    · refine decide_eq_true (fun e => hik ?_)
      rw [rd_nat l k hkl] at e
      rw [rd_nat l i hi] at hkv
      exact once_inj ho hi hkl (hkv.trans e.symm)
    · refine decide_eq_false (fun hh => hh ?_)
      rw [hr k hkl, if_pos rfl]
theorem inner (n : Nat) (hn : n ≤ 1048576) (i : Nat) (hi : i < n)
    (next : ∀ (c : Int) (l : List Int), l.length = n → Whole l → ∃ r, Ev (fun k => spec_FewestSwaps.l0 k c l (n : Int) ((i + 1 : Nat) : Int)) r ∧ Ev (fun k => impl_FewestSwaps.l0 k c l (n : Int) ((i + 1 : Nat) : Int)) r) :
    ∀ (m : Nat) (c : Int) (l : List Int), l.length = n → Whole l → off l ≤ m → ∃ r, Ev (fun k => spec_FewestSwaps.l1 k c l (i : Int) (n : Int) (i : Int)) r ∧ Ev (fun k => impl_FewestSwaps.l1 k c l (i : Int) (n : Int) (i : Int)) r := by
  have stop : ∀ (c : Int) (l : List Int), l.length = n → Whole l → rd l (i : Int) = (i : Int) → ∃ r, Ev (fun k => spec_FewestSwaps.l1 k c l (i : Int) (n : Int) (i : Int)) r ∧ Ev (fun k => impl_FewestSwaps.l1 k c l (i : Int) (n : Int) (i : Int)) r := by
    intro c l hl hw e
    obtain ⟨r, h1, h2⟩ := next c l hl hw
    refine ⟨r, ev_succ ?_, ev_succ ?_⟩
    · simp only [spec_FewestSwaps.l1]
      refine ev_if (by omega) ?_
      refine ev_if (by omega) ?_
      refine ev_if e ?_
      rw [w64s (by omega)]
      exact h1
    · simp only [impl_FewestSwaps.l1]
      refine ev_if (by omega) ?_
      refine ev_if (by omega) ?_
      refine ev_if e ?_
      rw [w64s (by omega)]
      exact h2
  intro m
  induction m with
  | zero =>
    intro c l hl hw hm
    by_cases e : rd l (i : Int) = (i : Int)
    · exact stop c l hl hw e
    · obtain ⟨k, h1, h2, h3, h4⟩ := swap_ok l hw i (by omega) e
      omega
  | succ m ih =>
    intro c l hl hw hm
    by_cases e : rd l (i : Int) = (i : Int)
    · exact stop c l hl hw e
    · obtain ⟨k, h1, h2, h3, h4⟩ := swap_ok l hw i (by omega) e
      obtain ⟨r, a1, a2⟩ := ih (wrap64 (c + 1)) ((l.set i (rd l (k : Int))).set k (k : Int)) (by rw [List.length_set, List.length_set]; exact hl) h3 (by omega)
      refine ⟨r, ev_succ ?_, ev_succ ?_⟩
      · simp only [spec_FewestSwaps.l1]
        refine ev_if (by omega) ?_
        refine ev_if (by omega) ?_
        refine ev_else e ?_
        rw [h1, Int.toNat_natCast, Int.toNat_natCast]
        refine ev_if (by omega) ?_
        refine ev_if (by omega) ?_
        exact a1
      · simp only [impl_FewestSwaps.l1]
        refine ev_if (by omega) ?_
        refine ev_if (by omega) ?_
        refine ev_else e ?_
        rw [h1, Int.toNat_natCast, Int.toNat_natCast]
        refine ev_if (by omega) ?_
        refine ev_if (by omega) ?_
        exact a2
theorem outer (n : Nat) (hn : n ≤ 1048576) : ∀ (d i : Nat), i + d = n → ∀ (c : Int) (l : List Int), l.length = n → Whole l → ∃ r, Ev (fun k => spec_FewestSwaps.l0 k c l (n : Int) (i : Int)) r ∧ Ev (fun k => impl_FewestSwaps.l0 k c l (n : Int) (i : Int)) r := by
  intro d
  induction d with
  | zero =>
    intro i hi c l hl hw
    refine ⟨(c, true), ev_succ ?_, ev_succ ?_⟩
    · simp only [spec_FewestSwaps.l0]
      refine ev_else (by omega) ?_
      exact Ev.now _
    · simp only [impl_FewestSwaps.l0]
      refine ev_else (by omega) ?_
      exact Ev.now _
  | succ d ih =>
    intro i hi c l hl hw
    obtain ⟨r, h1, h2⟩ := inner n hn i (by omega) (ih (i + 1) (by omega)) (off l) c l hl hw (Nat.le_refl _)
    refine ⟨r, ev_succ ?_, ev_succ ?_⟩
    · simp only [spec_FewestSwaps.l0]
      refine ev_if (by omega) ?_
      exact h1
    · simp only [impl_FewestSwaps.l0]
      refine ev_if (by omega) ?_
      exact h2
theorem same (l : List Int) (hl : l.length ≤ 1048576) (hw : ∀ x ∈ l, (Lit.int .i64 x).wf = true) : ∃ r, Ev (fun k => spec_FewestSwaps.f k l) r ∧ Ev (fun k => impl_FewestSwaps.f k l) r := by
  have ho : spec_l1Own.f l = some l := by
    simp only [spec_l1Own.f, Option.bind_some, List.nil_append]
    rw [if_pos (by simp only [List.length_nil]; omega)]
  have hc : slices_Clone_int_int.f l = some l := by
    simp only [slices_Clone_int_int.f]
    rw [if_pos (by omega)]
  simp only [spec_FewestSwaps.f, impl_FewestSwaps.f]
  by_cases a : stOk l = true
  · obtain ⟨r, h1, h2⟩ := outer l.length hl l.length 0 (by omega) 0 l rfl (stOk_whole a).2.2
    refine ⟨r, Ev.bind (spec_shStands_ev l hl) ?_, Ev.bind (impl_IsStanding_ev l hl) ?_⟩
    · simp only [a, if_true]
      exact ev_some ho h1
    · simp only [a, if_true]
      exact ev_some hc h2
  · refine ⟨(0, false), Ev.bind (spec_shStands_ev l hl) ?_, Ev.bind (impl_IsStanding_ev l hl) ?_⟩
    all_goals
      simp only [a, Bool.false_eq_true, if_false]
      exact Ev.now _
theorem FnExactFewestSwaps : laws_FnExactFewestSwaps.Pure := by
  intro l0  hm h8 hw 
  refine Ev.rounds (r := true) ?_
  by_cases hl : (l0.length : Int) > 1048576
  · simp only [laws_FnExactFewestSwaps.f, if_pos hl]
    exact Ev.now _
  · have hl' : l0.length ≤ 1048576 := by omega
    obtain ⟨r, h1, h2⟩ := same l0  hl' hw 
    simp only [laws_FnExactFewestSwaps.f, if_neg hl]
    repeat (first
      | exact Ev.now _
      | (dsimp only)
      | (with_reducible refine Ev.bind h1 ?_)
      | (with_reducible refine Ev.bind h2 ?_)
      | (with_reducible refine Ev.bind (laws_toIntS_ev _ (by omega)) ?_)
      | (with_reducible refine Ev.bind (laws_eqIntS_ev _ _ (by omega)) ?_)
      | (simp only [decide_true, if_true, bne_self_eq_false, Bool.false_eq_true, if_false, neg_no])
      | (refine ev_succ ?_; simp only [laws_FnExactFewestSwaps.j0]))

end Go.Proofs.Ytlolifijdeenjaa.Pure
