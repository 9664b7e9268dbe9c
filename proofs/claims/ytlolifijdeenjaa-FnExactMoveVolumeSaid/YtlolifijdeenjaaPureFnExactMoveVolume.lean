/- The plain law behind FnExactMoveVolume, in lists and numbers alone: the program's and the reference's moved list are one. No condition beyond the printed bounds. -/
import Derived.Test.YtlolifijdeenjaaXFnExactMoveVolumex4
set_option linter.unusedVariables false
set_option linter.unusedSimpArgs false
namespace Go.Proofs.Ytlolifijdeenjaa.Pure
open Go.RowKit Go.Proofs.Ytlolifijdeenjaa.XFnExactMoveVolume Go.Proofs.YtlolifijdeenjaaW.PrintWords Go.Proofs.YtlolifijdeenjaaW.PrintLast Go.Proofs.YtlolifijdeenjaaW.PrintMore
/-! ### Small words: rounds, reads, sums without a wrap. -/
theorem ev_some {α β : Type} {g : Option α} {f : Nat → α → Option β} {a : α} {r : β} (h : g = some a) (k : Ev (fun n => f n a) r) : Ev (fun n => g.bind (f n)) r := by
  subst h
  exact k
theorem ev_ret {α : Type} {r s : α} (h : r = s) : Ev (fun _ => some r) s := by
  subst h
  exact Ev.now r
theorem ev_map {α β : Type} {g : Nat → Option α} {f : α → β} {a : α} {r : β} (h : Ev g a) (e : f a = r) : Ev (fun n => (g n).bind fun t => some (f t)) r := Ev.bind h (ev_ret e)
theorem ev_eq {α : Type} {g f : Nat → Option α} {r : α} (h : g = f) (k : Ev f r) : Ev g r := by
  rw [h]
  exact k
theorem w64 {x : Int} (h0 : -9223372036854775808 ≤ x) (h1 : x ≤ 9223372036854775807) : wrap64 x = x := by
  unfold wrap64
  omega
theorem w64s {i : Nat} (h : i < 4611686018427387904) : wrap64 ((i : Int) + 1) = ((i + 1 : Nat) : Int) := by
  rw [w64 (by omega) (by omega)]
  rfl
theorem rd_nat (l : List Int) (i : Nat) (h : i < l.length) : rd l (i : Int) = l[i] := by
  unfold rd
  rw [Int.toNat_natCast, List.getD_eq_getElem?_getD, List.getElem?_eq_getElem h]
  rfl
theorem wf_i64 {x : Int} (h : (Lit.int .i64 x).wf = true) : -9223372036854775808 ≤ x ∧ x ≤ 9223372036854775807 := by
  simp only [Lit.wf, Bool.and_eq_true, decide_eq_true_eq] at h
  exact h
theorem ev_succ {α : Type} {g : Nat → Option α} {r : α} (h : Ev (fun k => g (k + 1)) r) : Ev g r := Ev.step (fun _ => rfl) h
theorem neg_no (n : Nat) : ¬ (1 + (n : Int) < 0) := by omega
theorem ev_if {α : Type} {c : Prop} [Decidable c] {g f : Nat → Option α} {r : α} (h : c) (k : Ev g r) : Ev (fun n => if c then g n else f n) r := Ev.congr (fun _ => if_pos h) k
theorem ev_else {α : Type} {c : Prop} [Decidable c] {g f : Nat → Option α} {r : α} (h : ¬ c) (k : Ev f r) : Ev (fun n => if c then g n else f n) r := Ev.congr (fun _ => if_neg h) k

theorem set_app {α : Type} (a b : List α) (x y : α) (n : Nat) (h : n = a.length) : (a ++ x :: b).set n y = a ++ y :: b := by
  subst h
  simp

theorem laws_toIntS_ev (l : List Int) (hl : l.length ≤ 1048576) : Ev (fun k => laws_toIntS.f k l) l := by
  have key : ∀ (d i : Nat), i + d = l.length → Ev (fun k => laws_toIntS.l0 k l (l.take i ++ List.replicate d 0) (i : Int)) l := by
    intro d
    induction d with
    | zero =>
      intro i h
      refine ev_succ ?_
      simp only [laws_toIntS.l0]
      refine ev_else (by omega) ?_
      refine ev_ret ?_
      rw [List.take_of_length_le (by omega)]
      simp
    | succ d ih =>
      intro i h
      have hi' : i < l.length := by omega
      refine Ev.step (f := fun k => laws_toIntS.l0 k l (l.take (i + 1) ++ List.replicate d 0) ((i + 1 : Nat) : Int)) (fun k => ?_) (ih (i + 1) (by omega))
      simp only [laws_toIntS.l0]
      rw [if_pos (by omega), if_pos (by omega), if_pos (by simp; omega), rd_nat l i hi', w64s (by omega), Int.toNat_natCast, List.replicate_succ, set_app _ _ _ _ _ (by simp; omega), List.take_succ_eq_append_getElem hi']
      simp only [List.append_assoc, List.cons_append, List.nil_append]
  refine ev_eq (f := fun k => laws_toIntS.l0 k l (l.take 0 ++ List.replicate l.length 0) ((0 : Nat) : Int)) ?_ (key l.length 0 (by omega))
  funext k
  simp only [laws_toIntS.f]
  rw [if_pos (by omega), if_pos (by omega)]
  simp

theorem laws_eqIntS_ev (a b : List Int) (hl : a.length ≤ 4611686018427387903) : Ev (fun k => laws_eqIntS.f k a b) (decide (a = b)) := by
  by_cases hlen : a.length = b.length
  · have key : ∀ (d i : Nat), i + d = a.length → Ev (fun k => laws_eqIntS.l0 k a b (i : Int)) (decide (a.drop i = b.drop i)) := by
      intro d
      induction d with
      | zero =>
        intro i h
        rw [List.drop_eq_nil_of_le (by omega), List.drop_eq_nil_of_le (by omega)]
        refine ev_succ ?_
        simp only [laws_eqIntS.l0]
        refine ev_else (by omega) ?_
        exact ev_ret (by simp)
      | succ d ih =>
        intro i h
        have h1 : i < a.length := by omega
        have h2 : i < b.length := by omega
        rw [List.drop_eq_getElem_cons h1, List.drop_eq_getElem_cons h2]
        refine Ev.step (f := fun k => if a[i] = b[i] then laws_eqIntS.l0 k a b ((i + 1 : Nat) : Int) else some false) (fun k => by simp only [laws_eqIntS.l0]; rw [if_pos (by omega), if_pos (by omega), if_pos (by omega), rd_nat a i h1, rd_nat b i h2, w64s (by omega)]) ?_
        by_cases c : a[i] = b[i]
        · simp only [c, if_true, List.cons.injEq, true_and]
          exact ih (i + 1) (by omega)
        · simp only [c, if_false, List.cons.injEq, false_and, decide_false]
          exact Ev.now _
    refine ev_eq (f := fun k => laws_eqIntS.l0 k a b ((0 : Nat) : Int)) ?_ (key a.length 0 (by omega))
    funext k
    simp only [laws_eqIntS.f]
    rw [if_pos (by omega)]
    rfl
  · refine ev_eq (f := fun _ => some false) ?_ (ev_ret (by simp; intro h; exact hlen (by rw [h])))
    funext k
    simp only [laws_eqIntS.f]
    rw [if_neg (by omega)]

def marked (m : Int) (n : Nat) : List Int := (List.range n).map fun (j : Nat) => m + (j : Int)
theorem marked_succ (m : Int) (n : Nat) : marked m (n + 1) = marked m n ++ [m + (n : Int)] := by
  unfold marked
  rw [List.range_succ]
  simp
theorem marked_len (m : Int) (n : Nat) : (marked m n).length = n := by simp [marked]
theorem laws_markIntS_ev (l : List Int) (hl : l.length ≤ 1048576) : Ev (fun k => laws_markIntS.f k l 1) (1 + (l.length : Int), marked 1 l.length) := by
  have key : ∀ (d i : Nat), i + d = l.length → Ev (fun k => laws_markIntS.l0 k (marked 1 i ++ l.drop i) (1 + (i : Int)) (i : Int)) (1 + (l.length : Int), marked 1 l.length) := by
    intro d
    induction d with
    | zero =>
      intro i h
      obtain rfl : i = l.length := by omega
      refine ev_succ ?_
      simp only [laws_markIntS.l0]
      refine ev_else (by simp [marked_len]) ?_
      refine ev_ret ?_
      simp
    | succ d ih =>
      intro i h
      have h1 : i < l.length := by omega
      refine Ev.step (f := fun k => laws_markIntS.l0 k (marked 1 (i + 1) ++ l.drop (i + 1)) (1 + ((i + 1 : Nat) : Int)) ((i + 1 : Nat) : Int)) (fun k => ?_) (ih (i + 1) (by omega))
      simp only [laws_markIntS.l0]
      rw [if_pos (by simp [marked_len]; omega), if_pos (by omega), w64s (by omega), Int.toNat_natCast, List.drop_eq_getElem_cons h1, set_app _ _ _ _ _ (by simp [marked_len]), w64 (by omega) (by omega), marked_succ]
      simp only [List.append_assoc, List.singleton_append, Int.natCast_succ, Int.add_assoc]
  refine ev_eq (f := fun k => laws_markIntS.l0 k (marked 1 0 ++ l.drop 0) (1 + ((0 : Nat) : Int)) ((0 : Nat) : Int)) ?_ (key l.length 0 (by omega))
  funext k
  simp only [laws_markIntS.f]
  simp [marked]
theorem laws_heldIntS_ev (n : Nat) (hl : n ≤ 1048576) : Ev (fun k => laws_heldIntS.f k (marked 1 n) 1) (1 + (n : Int)) := by
  have key : ∀ (d i : Nat), i + d = n → Ev (fun k => laws_heldIntS.l0 k (marked 1 n) (1 + (i : Int)) (i : Int)) (1 + (n : Int)) := by
    intro d
    induction d with
    | zero =>
      intro i h
      obtain rfl : i = n := by omega
      refine ev_succ ?_
      simp only [laws_heldIntS.l0]
      refine ev_else (by simp [marked_len]) ?_
      exact ev_ret rfl
    | succ d ih =>
      intro i h
      refine Ev.step (f := fun k => laws_heldIntS.l0 k (marked 1 n) (1 + ((i + 1 : Nat) : Int)) ((i + 1 : Nat) : Int)) (fun k => ?_) (ih (i + 1) (by omega))
      simp only [laws_heldIntS.l0]
      rw [if_pos (by simp [marked_len]; omega), if_pos (by omega), rd_nat _ i (by simp [marked_len]; omega), if_pos (by simp [marked]), w64s (by omega), w64 (by omega) (by omega)]
      simp only [Int.natCast_succ, Int.add_assoc]
  refine ev_eq (f := fun k => laws_heldIntS.l0 k (marked 1 n) (1 + ((0 : Nat) : Int)) ((0 : Nat) : Int)) ?_ (key n 0 (by omega))
  funext k
  simp only [laws_heldIntS.f]
  simp

theorem spec_l1In_eq (x lo hi : Int) : spec_l1In.f x lo hi = some (decide (lo ≤ x ∧ x ≤ hi)) := by
  unfold spec_l1In.f
  by_cases c : x ≥ lo
  · rw [if_pos c]
    congr 1
    simp only [c, true_and]
  · rw [if_neg c]
    congr 1
    exact (decide_eq_false (fun h => c h.1)).symm

theorem impl_within_eq (x lo hi : Int) : impl_within.f x lo hi = some (decide (lo ≤ x ∧ x ≤ hi)) := by
  unfold impl_within.f
  by_cases c : x ≥ lo
  · rw [if_pos c]
    congr 1
    simp only [c, true_and]
  · rw [if_neg c]
    congr 1
    exact (decide_eq_false (fun h => c h.1)).symm

theorem slices_Index_ev (l : List Int) (x : Int) (j : Nat) (hj : j < l.length) (hl : l.length ≤ 1048576) (hx : rd l (j : Int) = x) (hn : ∀ i, i < j → rd l (i : Int) ≠ x) : Ev (fun k => slices_Index_int_int.f k l x) ((j : Nat) : Int) := by
  have key : ∀ (d i : Nat), i + d = j → Ev (fun k => slices_Index_int_int.l0 k l x (l.length : Int) (i : Int)) ((j : Nat) : Int) := by
    intro d
    induction d with
    | zero =>
      intro i h
      obtain rfl : i = j := by omega
      refine ev_succ ?_
      simp only [slices_Index_int_int.l0]
      refine ev_if (by omega) ?_
      refine ev_if (by omega) ?_
      refine ev_if (by omega) ?_
      refine ev_if hx.symm ?_
      exact Ev.now _
    | succ d ih =>
      intro i h
      refine ev_succ ?_
      simp only [slices_Index_int_int.l0]
      refine ev_if (by omega) ?_
      refine ev_if (by omega) ?_
      refine ev_if (by omega) ?_
      refine ev_else (fun e => hn i (by omega) e.symm) ?_
      rw [w64s (by omega)]
      exact ih (i + 1) (by omega)
  exact key j 0 (by omega)
theorem slices_Index_none (l : List Int) (x : Int) (hl : l.length ≤ 1048576) (hn : ∀ i, i < l.length → rd l (i : Int) ≠ x) : Ev (fun k => slices_Index_int_int.f k l x) (-1) := by
  have key : ∀ (d i : Nat), i + d = l.length → Ev (fun k => slices_Index_int_int.l0 k l x (l.length : Int) (i : Int)) (-1) := by
    intro d
    induction d with
    | zero =>
      intro i h
      refine ev_succ ?_
      simp only [slices_Index_int_int.l0]
      refine ev_else (by omega) ?_
      exact Ev.now _
    | succ d ih =>
      intro i h
      refine ev_succ ?_
      simp only [slices_Index_int_int.l0]
      refine ev_if (by omega) ?_
      refine ev_if (by omega) ?_
      refine ev_if (by omega) ?_
      refine ev_else (fun e => hn i (by omega) e.symm) ?_
      rw [w64s (by omega)]
      exact ih (i + 1) (by omega)
  exact key l.length 0 (by omega)

theorem sub_length : ∀ (l L : List Int), l.Nodup → (∀ x ∈ l, x ∈ L) → l.length ≤ L.length
  | [], _, _, _ => Nat.zero_le _
  | x :: l, L, hn, h => by
    have hx := h x List.mem_cons_self
    have hn' := List.nodup_cons.1 hn
    have h1 := sub_length l (L.erase x) hn'.2 (fun y hy => by
      refine (List.mem_erase_of_ne ?_).2 (h y (List.mem_cons_of_mem _ hy))
      rintro rfl
      exact hn'.1 hy)
    have h2 := List.length_erase_of_mem hx
    have h3 : 0 < L.length := List.length_pos_of_mem hx
    simp only [List.length_cons]
    omega
def upTo (n : Nat) : List Int := (List.range n).map fun (j : Nat) => (j : Int)
theorem mem_upTo {n : Nat} {x : Int} : x ∈ upTo n ↔ 0 ≤ x ∧ x < n := by
  unfold upTo
  rw [List.mem_map]
  constructor
  · rintro ⟨j, h1, rfl⟩
    have := List.mem_range.1 h1
    omega
  · rintro ⟨h1, h2⟩
    exact ⟨x.toNat, List.mem_range.2 (by omega), by omega⟩
theorem upTo_len (n : Nat) : (upTo n).length = n := by simp [upTo]
theorem upTo_nodup (n : Nat) : (upTo n).Nodup := by
  unfold upTo
  refine List.Pairwise.map _ ?_ List.nodup_range
  intro a b h e
  exact h (by omega)
/-- A list that has each number below its length. -/
def Whole (l : List Int) : Prop := ∀ i, i < l.length → (i : Int) ∈ l
/-- A list of numbers below its length, each once. -/
def Once (l : List Int) : Prop := ∀ i (h : i < l.length), (0 ≤ l[i] ∧ l[i] ≤ (l.length : Int) - 1) ∧ l[i] ∉ l.take i
theorem whole_drop {l : List Int} (h : Whole l) (i : Nat) (hi : i < l.length) (hs : ∀ v ∈ upTo l.length, v ∈ l.eraseIdx i) : False := by
  have h1 := sub_length _ _ (upTo_nodup l.length) hs
  rw [upTo_len, List.length_eraseIdx_of_lt hi] at h1
  omega
theorem once_of_whole {l : List Int} (h : Whole l) : Once l := by
  have hall : ∀ v ∈ upTo l.length, ∃ j, ∃ hj : j < l.length, l[j] = v := by
    intro v hv
    have h1 := mem_upTo.1 hv
    have h2 := h v.toNat (by omega)
    rw [Int.toNat_of_nonneg h1.1] at h2
    obtain ⟨j, hj, e⟩ := List.getElem_of_mem h2
    exact ⟨j, hj, e⟩
  intro i hi
  constructor
  · by_cases c : 0 ≤ l[i] ∧ l[i] ≤ (l.length : Int) - 1
    · exact c
    · refine (whole_drop h i hi (fun v hv => ?_)).elim
      obtain ⟨j, hj, e⟩ := hall v hv
      have hv' := mem_upTo.1 hv
      refine List.mem_eraseIdx_iff_getElem.2 ⟨j, hj, ?_, e⟩
      rintro rfl
      omega
  · intro hm
    obtain ⟨j, hj, e⟩ := List.getElem_of_mem hm
    rw [List.length_take] at hj
    rw [List.getElem_take] at e
    refine whole_drop h i hi (fun v hv => ?_)
    obtain ⟨t, ht, e2⟩ := hall v hv
    by_cases c : t = i
    · subst c
      exact List.mem_eraseIdx_iff_getElem.2 ⟨j, by omega, by omega, e.trans e2⟩
    · exact List.mem_eraseIdx_iff_getElem.2 ⟨t, ht, c, e2⟩
theorem once_inj {l : List Int} (h : Once l) {i j : Nat} (hi : i < l.length) (hj : j < l.length) (e : l[i] = l[j]) : i = j := by
  have key : ∀ (a b : Nat) (ha : a < l.length) (hb : b < l.length), a < b → l[a] ≠ l[b] := by
    intro a b ha hb hab e
    refine (h b hb).2 ?_
    rw [← e]
    have : (l.take b)[a]'(by rw [List.length_take]; omega) = l[a] := List.getElem_take
    rw [← this]
    exact List.getElem_mem _
  rcases Nat.lt_trichotomy i j with c | c | c
  · exact (key i j hi hj c e).elim
  · exact c
  · exact (key j i hj hi c e.symm).elim
theorem nodup_of_once {l : List Int} (h : Once l) : l.Nodup := by
  rw [List.nodup_iff_pairwise_ne, List.pairwise_iff_getElem]
  intro i j hi hj hij e
  exact absurd (once_inj h hi hj e) (by omega)
theorem whole_of_once {l : List Int} (h : Once l) : Whole l := by
  intro i hi
  by_cases c : (i : Int) ∈ l
  · exact c
  · have h1 := sub_length l ((upTo l.length).erase (i : Int)) (nodup_of_once h) (fun x hx => by
      obtain ⟨j, hj, rfl⟩ := List.getElem_of_mem hx
      have h2 := (h j hj).1
      refine (List.mem_erase_of_ne ?_).2 (mem_upTo.2 ⟨h2.1, by omega⟩)
      intro e
      exact c (e ▸ hx))
    rw [List.length_erase_of_mem (mem_upTo.2 ⟨by omega, by omega⟩), upTo_len] at h1
    omega
def allIn (l : List Int) : Bool := (List.range l.length).all fun i => decide ((i : Int) ∈ l)
theorem allIn_iff (l : List Int) : allIn l = true ↔ Whole l := by
  unfold allIn Whole
  rw [List.all_eq_true]
  simp only [List.mem_range, decide_eq_true_eq]
def stOk (l : List Int) : Bool := decide (1 ≤ (l.length : Int) ∧ (l.length : Int) ≤ 8) && allIn l
theorem stOk_whole {l : List Int} (h : stOk l = true) : 1 ≤ l.length ∧ l.length ≤ 8 ∧ Whole l := by
  simp only [stOk, Bool.and_eq_true, decide_eq_true_eq, allIn_iff] at h
  exact ⟨by omega, by omega, h.2⟩
theorem spec_l1Has_ev (l : List Int) (x : Int) (hl : l.length ≤ 1048576) : Ev (fun k => spec_l1Has.f k l x) (decide (x ∈ l)) := by
  have key : ∀ (d i : Nat), i + d = l.length → Ev (fun k => spec_l1Has.l0 k x l (l.length : Int) (i : Int)) (decide (x ∈ l.drop i)) := by
    intro d
    induction d with
    | zero =>
      intro i h
      rw [List.drop_eq_nil_of_le (by omega)]
      refine ev_succ ?_
      simp only [spec_l1Has.l0]
      refine ev_else (by omega) ?_
      exact ev_ret (by simp)
    | succ d ih =>
      intro i h
      have h1 : i < l.length := by omega
      rw [List.drop_eq_getElem_cons h1]
      refine ev_succ ?_
      simp only [spec_l1Has.l0]
      refine ev_if (by omega) ?_
      refine ev_if (by omega) ?_
      refine ev_if (by omega) ?_
      rw [rd_nat l i h1]
      by_cases c : l[i] = x
      · refine ev_if c ?_
        exact ev_ret (decide_eq_true (by rw [c]; exact List.mem_cons_self)).symm
      · refine ev_else c ?_
        rw [w64s (by omega)]
        have e : decide (x ∈ l[i] :: l.drop (i + 1)) = decide (x ∈ l.drop (i + 1)) := by
          refine decide_eq_decide.2 ?_
          rw [List.mem_cons]
          exact ⟨fun h => h.resolve_left (fun e => c e.symm), .inr⟩
        rw [e]
        exact ih (i + 1) (by omega)
  exact key l.length 0 (by omega)
theorem first_is (l : List Int) (x : Int) : (∀ i, i < l.length → rd l (i : Int) ≠ x) ∨ ∃ j, j < l.length ∧ rd l (j : Int) = x ∧ ∀ i, i < j → rd l (i : Int) ≠ x := by
  have key : ∀ n, n ≤ l.length → (∀ i, i < n → rd l (i : Int) ≠ x) ∨ ∃ j, j < n ∧ rd l (j : Int) = x ∧ ∀ i, i < j → rd l (i : Int) ≠ x := by
    intro n
    induction n with
    | zero => exact fun _ => .inl (fun i hi => by omega)
    | succ n ih =>
      intro h
      rcases ih (by omega) with a | ⟨j, a, b, c⟩
      · by_cases e : rd l (n : Int) = x
        · exact .inr ⟨n, by omega, e, a⟩
        · refine .inl (fun i hi => ?_)
          by_cases f : i = n
          · subst f
            exact e
          · exact a i (by omega)
      · exact .inr ⟨j, by omega, b, c⟩
  exact key l.length (Nat.le_refl _)
theorem mem_rd {l : List Int} {x : Int} : x ∈ l ↔ ∃ j, j < l.length ∧ rd l (j : Int) = x := by
  constructor
  · intro h
    obtain ⟨j, hj, e⟩ := List.getElem_of_mem h
    exact ⟨j, hj, by rw [rd_nat l j hj]; exact e⟩
  · rintro ⟨j, hj, e⟩
    rw [rd_nat l j hj] at e
    rw [← e]
    exact List.getElem_mem _
theorem slices_Contains_ev (l : List Int) (x : Int) (hl : l.length ≤ 1048576) : Ev (fun k => slices_Contains_int_int.f k l x) (decide (x ∈ l)) := by
  simp only [slices_Contains_int_int.f]
  rcases first_is l x with h | ⟨j, h1, h2, h3⟩
  · refine ev_map (slices_Index_none l x hl h) ?_
    rw [decide_eq_false (by omega), decide_eq_false]
    intro hm
    obtain ⟨j, hj, e⟩ := mem_rd.1 hm
    exact h j hj e
  · refine ev_map (slices_Index_ev l x j h1 hl h2 h3) ?_
    rw [decide_eq_true (by omega), decide_eq_true (mem_rd.2 ⟨j, h1, h2⟩)]
theorem impl_isOrder_ev (l : List Int) (hl : l.length ≤ 1048576) : Ev (fun k => impl_isOrder.f k l (l.length : Int)) (allIn l) := by
  have key : ∀ (d i : Nat), i + d = l.length → (∀ j, j < i → (j : Int) ∈ l) → Ev (fun k => impl_isOrder.l0 k l (l.length : Int) (l.length : Int) (i : Int)) (allIn l) := by
    intro d
    induction d with
    | zero =>
      intro i h hi
      refine ev_succ ?_
      simp only [impl_isOrder.l0]
      refine ev_else (by omega) ?_
      refine ev_ret ?_
      rw [(allIn_iff l).2 (fun j hj => hi j (by omega))]
      simp
    | succ d ih =>
      intro i h hi
      refine ev_succ ?_
      simp only [impl_isOrder.l0]
      refine ev_if (by omega) ?_
      refine Ev.bind (slices_Contains_ev l (i : Int) hl) ?_
      by_cases c : (i : Int) ∈ l
      · simp only [c, decide_true, if_true]
        rw [w64s (by omega)]
        refine ih (i + 1) (by omega) (fun j hj => ?_)
        by_cases e : j = i
        · subst e
          exact c
        · exact hi j (by omega)
      · simp only [c, decide_false, Bool.false_eq_true, if_false]
        refine ev_ret ?_
        refine (Bool.eq_false_iff.2 (fun h1 => ?_)).symm
        exact c ((allIn_iff l).1 h1 i (by omega))
  exact key l.length 0 (by omega) (fun j hj => by omega)
theorem impl_IsStanding_ev (l : List Int) (hl : l.length ≤ 1048576) : Ev (fun k => impl_IsStanding.f k l) (stOk l) := by
  simp only [impl_IsStanding.f, stOk]
  refine ev_some (impl_within_eq _ _ _) ?_
  by_cases c : 1 ≤ (l.length : Int) ∧ (l.length : Int) ≤ 8
  · simp only [c, and_self, decide_true, if_true, Bool.true_and]
    exact ev_map (impl_isOrder_ev l hl) rfl
  · simp only [c, decide_false, Bool.false_and, Bool.false_eq_true, if_false]
    exact Ev.now _
theorem spec_shStands_ev (l : List Int) (hl : l.length ≤ 1048576) : Ev (fun k => spec_shStands.f k l) (stOk l) := by
  have key : ∀ (d i : Nat), i + d = l.length → (∀ j (h : j < l.length), j < i → (0 ≤ l[j] ∧ l[j] ≤ (l.length : Int) - 1) ∧ l[j] ∉ l.take j) → Ev (fun k => spec_shStands.l0 k l l (l.length : Int) (i : Int)) (allIn l) := by
    intro d
    induction d with
    | zero =>
      intro i h hi
      refine ev_succ ?_
      simp only [spec_shStands.l0]
      refine ev_else (by omega) ?_
      refine ev_ret ?_
      exact ((allIn_iff l).2 (whole_of_once (fun j hj => hi j hj (by omega)))).symm
    | succ d ih =>
      intro i h hi
      have h1 : i < l.length := by omega
      have hno : ¬ ((0 ≤ l[i] ∧ l[i] ≤ (l.length : Int) - 1) ∧ l[i] ∉ l.take i) → false = allIn l := by
        intro hc
        refine (Bool.eq_false_iff.2 (fun h2 => ?_)).symm
        exact hc (once_of_whole ((allIn_iff l).1 h2) i h1)
      refine ev_succ ?_
      simp only [spec_shStands.l0]
      refine ev_if (by omega) ?_
      refine ev_if (by omega) ?_
      refine ev_if (by omega) ?_
      rw [w64 (x := (l.length : Int) - 1) (by omega) (by omega), rd_nat l i h1]
      refine ev_some (spec_l1In_eq _ _ _) ?_
      by_cases c : 0 ≤ l[i] ∧ l[i] ≤ (l.length : Int) - 1
      · simp only [c, and_self, decide_true, if_true]
        refine ev_if (by omega) ?_
        rw [Int.toNat_natCast]
        refine Ev.bind (spec_l1Has_ev _ _ (by rw [List.length_take]; omega)) ?_
        by_cases e : l[i] ∈ l.take i
        · simp only [e, decide_true, if_true]
          exact ev_ret (hno (fun hh => hh.2 e))
        · simp only [e, decide_false, Bool.false_eq_true, if_false]
          rw [w64s (by omega)]
          refine ih (i + 1) (by omega) (fun j hj hji => ?_)
          by_cases f : j = i
          · subst f
            exact ⟨c, e⟩
          · exact hi j hj (by omega)
      · simp only [c, decide_false, Bool.false_eq_true, if_false]
        exact ev_ret (hno (fun hh => c hh.1))
  simp only [spec_shStands.f, stOk]
  refine ev_some (spec_l1In_eq _ _ _) ?_
  by_cases c : 1 ≤ (l.length : Int) ∧ (l.length : Int) ≤ 8
  · simp only [c, and_self, decide_true, if_true, Bool.true_and]
    exact key l.length 0 (by omega) (fun j hj hji => by omega)
  · simp only [c, decide_false, Bool.false_and, Bool.false_eq_true, if_false]
    exact Ev.now _

theorem moved_len (l : List Int) (i j : Nat) (hi : i < l.length) : (impl_moved.list l i j).length = l.length := by
  simp only [impl_moved.list, List.length_append, List.length_take, List.length_drop, List.length_singleton]
  omega
theorem spec_ok (l : List Int) (h12 : l.length ≤ 12) (i j : Nat) (hi : i < l.length) (hj : j < l.length) : Ev (fun k => spec_MoveVolume.j0 k l (i : Int) (j : Int) false) (impl_moved.list l i j, true) := by
  have e1 : ∀ xs : List Int, xs.length ≤ 100 → spec_l1Own.f xs = some xs := by
    intro xs hx
    simp only [spec_l1Own.f, Option.bind_some, List.length_nil, List.nil_append]
    rw [if_pos (by omega)]
  have l1 : (l.take i).length = i := by rw [List.length_take]; omega
  have l2 : (l.drop (i + 1)).length = l.length - (i + 1) := List.length_drop
  have l3 : (l.take i ++ l.drop (i + 1)).length = l.length - 1 := by rw [List.length_append, l1, l2]; omega
  have l4 : ((l.take i ++ l.drop (i + 1)).take j).length = j := by rw [List.length_take, l3]; omega
  have l5 : ((l.take i ++ l.drop (i + 1)).drop j).length = l.length - 1 - j := by rw [List.length_drop, l3]
  have hX : ∀ k, spec_MoveVolume.j0 (k + 1) l (i : Int) (j : Int) false = some (impl_moved.list l i j, true) := by
    intro k
    simp only [spec_MoveVolume.j0, Bool.false_eq_true, if_false, w64s (i := i) (show i < 4611686018427387904 by omega), Int.toNat_natCast]
    rw [if_pos (by omega), if_pos (by omega), e1 (l.take i) (by omega)]
    simp only [Option.bind_some]
    rw [if_pos (by omega), if_pos (by omega), if_pos (by omega), if_pos (by omega), if_pos (by omega), e1 ((l.take i ++ l.drop (i + 1)).take j) (by omega)]
    simp only [Option.bind_some]
    rw [if_pos (by omega), if_pos (by rw [List.length_singleton]; omega), if_pos (by rw [List.length_append, List.length_singleton]; omega)]
    rfl
  exact ev_succ (ev_eq (funext hX) (Ev.now _))
theorem same (l : List Int) (a b : Int) (hl : l.length ≤ 1048576) (hw : ∀ x ∈ l, (Lit.int .i64 x).wf = true) (wa : (Lit.int .i64 a).wf = true) (wb : (Lit.int .i64 b).wf = true) : ∃ r, Ev (fun k => spec_MoveVolume.f k l a b) r ∧ Ev (fun k => impl_MoveVolume.f k l a b) r ∧ r.1.length ≤ 1048576 := by
  have s0 : Ev (fun k => spec_MoveVolume.j0 k l a b true) ([], false) := by
    refine ev_succ ?_
    simp only [spec_MoveVolume.j0, if_true]
    exact Ev.now _
  by_cases g : stOk l = true
  · have hn := (show 1 ≤ l.length ∧ l.length ≤ 8 from ⟨(stOk_whole g).1, (stOk_whole g).2.1⟩)
    by_cases ga : 0 ≤ a ∧ a ≤ (l.length : Int) - 1
    · by_cases gb : 0 ≤ b ∧ b ≤ (l.length : Int) - 1
      · obtain ⟨i, rfl⟩ := Int.eq_ofNat_of_zero_le ga.1
        obtain ⟨j, rfl⟩ := Int.eq_ofNat_of_zero_le gb.1
        have hi : i < l.length := by omega
        have hj : j < l.length := by omega
        have hm : impl_moved.f l (i : Int) (j : Int) = some (impl_moved.list l i j) := by
          unfold impl_moved.f
          rw [if_pos (by omega)]
          rfl
        refine ⟨(impl_moved.list l i j, true), ?_, ?_, by show (impl_moved.list l i j).length ≤ _; rw [moved_len l i j hi]; exact hl⟩
        · simp only [spec_MoveVolume.f]
          refine Ev.bind (spec_shStands_ev l hl) ?_
          rw [w64 (x := (l.length : Int) - 1) (by omega) (by omega)]
          simp only [g, if_true, spec_l1In_eq, Option.bind_some, ga, gb, and_self, decide_true, Bool.not_true]
          exact spec_ok l (by omega) i j hi hj
        · simp only [impl_MoveVolume.f]
          refine Ev.bind (impl_IsStanding_ev l hl) ?_
          rw [w64 (x := (l.length : Int) - 1) (by omega) (by omega)]
          simp only [g, if_true, impl_within_eq, Option.bind_some, ga, gb, and_self, decide_true, hm]
          exact Ev.now _
      · refine ⟨([], false), ?_, ?_, by simp⟩
        · simp only [spec_MoveVolume.f]
          refine Ev.bind (spec_shStands_ev l hl) ?_
          rw [w64 (x := (l.length : Int) - 1) (by omega) (by omega)]
          simp only [g, if_true, spec_l1In_eq, Option.bind_some, ga, gb, and_self, decide_true, decide_false, Bool.not_false]
          exact s0
        · simp only [impl_MoveVolume.f]
          refine Ev.bind (impl_IsStanding_ev l hl) ?_
          rw [w64 (x := (l.length : Int) - 1) (by omega) (by omega)]
          simp only [g, if_true, impl_within_eq, Option.bind_some, ga, gb, and_self, decide_true, decide_false, Bool.false_eq_true, if_false]
          exact Ev.now _
    · refine ⟨([], false), ?_, ?_, by simp⟩
      · simp only [spec_MoveVolume.f]
        refine Ev.bind (spec_shStands_ev l hl) ?_
        rw [w64 (x := (l.length : Int) - 1) (by omega) (by omega)]
        simp only [g, if_true, spec_l1In_eq, Option.bind_some, ga, decide_false, Bool.false_eq_true, if_false]
        exact s0
      · simp only [impl_MoveVolume.f]
        refine Ev.bind (impl_IsStanding_ev l hl) ?_
        rw [w64 (x := (l.length : Int) - 1) (by omega) (by omega)]
        simp only [g, if_true, impl_within_eq, Option.bind_some, ga, decide_false, Bool.false_eq_true, if_false]
        exact Ev.now _
  · refine ⟨([], false), ?_, ?_, by simp⟩
    · simp only [spec_MoveVolume.f]
      refine Ev.bind (spec_shStands_ev l hl) ?_
      simp only [g, Bool.false_eq_true, if_false]
      exact s0
    · simp only [impl_MoveVolume.f]
      refine Ev.bind (impl_IsStanding_ev l hl) ?_
      simp only [g, Bool.false_eq_true, if_false]
      exact Ev.now _
theorem FnExactMoveVolume : laws_FnExactMoveVolume.Pure := by
  intro l0 a b hm h8 hw wa wb
  refine Ev.rounds (r := true) ?_
  by_cases hl : (l0.length : Int) > 1048576
  · simp only [laws_FnExactMoveVolume.f, if_pos hl]
    exact Ev.now _
  · have hl' : l0.length ≤ 1048576 := by omega
    obtain ⟨r, h1, h2, hr⟩ := same l0 a b hl' hw wa wb
    simp only [laws_FnExactMoveVolume.f, if_neg hl]
    repeat (first
      | exact Ev.now _
      | (dsimp only)
      | (with_reducible refine Ev.bind h1 ?_)
      | (with_reducible refine Ev.bind h2 ?_)
      | (with_reducible refine Ev.bind (laws_toIntS_ev _ (by omega)) ?_)
      | (with_reducible refine Ev.bind (laws_eqIntS_ev _ _ (by omega)) ?_)
      | (with_reducible refine Ev.bind (laws_markIntS_ev _ (by omega)) ?_)
      | (with_reducible refine Ev.bind (laws_heldIntS_ev _ (by omega)) ?_)
      | (simp only [decide_true, if_true, bne_self_eq_false, Bool.false_eq_true, if_false, neg_no])
      | (refine ev_succ ?_; simp only [laws_FnExactMoveVolume.j0, laws_FnExactMoveVolume.j1, laws_FnExactMoveVolume.j2]))

end Go.Proofs.Ytlolifijdeenjaa.Pure
