/- The plain law behind FnExactTogetherPages, in lists and numbers alone: the program's and the reference's pages of one day are one. No condition beyond the printed bounds. -/
import Derived.Test.YtdnknmodffigdaaXFnExactTogetherPagesx3
set_option linter.unusedVariables false
set_option linter.unusedSimpArgs false
namespace Go.Proofs.Ytdnknmodffigdaa.Pure
open Go.RowKit Go.Proofs.Ytdnknmodffigdaa.XFnExactTogetherPages Go.Proofs.YtdnknmodffigdaaW.PrintWords Go.Proofs.YtdnknmodffigdaaW.PrintLast Go.Proofs.YtdnknmodffigdaaW.PrintMore
/-! ### Small words: rounds, reads, sums without a wrap. -/
theorem ev_some {α β : Type} {g : Option α} {f : Nat → α → Option β} {a : α} {r : β} (h : g = some a) (k : Ev (fun n => f n a) r) : Ev (fun n => g.bind (f n)) r := by
  subst h
  exact k
theorem ev_ret {α : Type} {r s : α} (h : r = s) : Ev (fun _ => some r) s := by
  subst h
  exact Ev.now r
theorem ev_map {α β : Type} {g : Nat → Option α} {f : α → β} {a : α} {r : β} (h : Ev g a) (e : f a = r) : Ev (fun n => (g n).bind fun t => some (f t)) r := Ev.bind h (ev_ret e)
theorem ev_eq {α : Type} {g f : Nat → Option α} {r : α} (h : g = f) (k : Ev f r) : Ev g r := by
  rw [h]
  exact k
theorem w64 {x : Int} (h0 : -9223372036854775808 ≤ x) (h1 : x ≤ 9223372036854775807) : wrap64 x = x := by
  unfold wrap64
  omega
theorem w64s {i : Nat} (h : i < 4611686018427387904) : wrap64 ((i : Int) + 1) = ((i + 1 : Nat) : Int) := by
  rw [w64 (by omega) (by omega)]
  rfl
theorem rd_nat (l : List Int) (i : Nat) (h : i < l.length) : rd l (i : Int) = l[i] := by
  unfold rd
  rw [Int.toNat_natCast, List.getD_eq_getElem?_getD, List.getElem?_eq_getElem h]
  rfl
theorem wf_i64 {x : Int} (h : (Lit.int .i64 x).wf = true) : -9223372036854775808 ≤ x ∧ x ≤ 9223372036854775807 := by
  simp only [Lit.wf, Bool.and_eq_true, decide_eq_true_eq] at h
  exact h
theorem ev_succ {α : Type} {g : Nat → Option α} {r : α} (h : Ev (fun k => g (k + 1)) r) : Ev g r := Ev.step (fun _ => rfl) h
theorem neg_no (n : Nat) : ¬ (1 + (n : Int) < 0) := by omega
theorem ev_if {α : Type} {c : Prop} [Decidable c] {g f : Nat → Option α} {r : α} (h : c) (k : Ev g r) : Ev (fun n => if c then g n else f n) r := Ev.congr (fun _ => if_pos h) k
theorem ev_else {α : Type} {c : Prop} [Decidable c] {g f : Nat → Option α} {r : α} (h : ¬ c) (k : Ev f r) : Ev (fun n => if c then g n else f n) r := Ev.congr (fun _ => if_neg h) k

theorem set_app {α : Type} (a b : List α) (x y : α) (n : Nat) (h : n = a.length) : (a ++ x :: b).set n y = a ++ y :: b := by
  subst h
  simp

theorem spec_l1In_eq (x lo hi : Int) : spec_l1In.f x lo hi = some (decide (lo ≤ x ∧ x ≤ hi)) := by
  unfold spec_l1In.f
  by_cases c : x ≥ lo
  · rw [if_pos c]
    congr 1
    simp only [c, true_and]
  · rw [if_neg c]
    congr 1
    exact (decide_eq_false (fun h => c h.1)).symm

theorem impl_within_eq (x lo hi : Int) : impl_within.f x lo hi = some (decide (lo ≤ x ∧ x ≤ hi)) := by
  unfold impl_within.f
  by_cases c : x ≥ lo
  · rw [if_pos c]
    congr 1
    simp only [c, true_and]
  · rw [if_neg c]
    congr 1
    exact (decide_eq_false (fun h => c h.1)).symm

def rOk (m d r : Int) : Bool := decide (0 ≤ m ∧ m ≤ 2000) && (decide (1 ≤ d ∧ d ≤ 200) && (decide (r = 0) || decide (2 ≤ r ∧ r ≤ 60)))
theorem rOk_is {m d r : Int} (h : rOk m d r = true) : (0 ≤ m ∧ m ≤ 2000) ∧ (1 ≤ d ∧ d ≤ 200) ∧ (r = 0 ∨ 2 ≤ r ∧ r ≤ 60) := by
  simp only [rOk, Bool.and_eq_true, Bool.or_eq_true, decide_eq_true_eq] at h
  exact h
theorem spec_rdGood_eq (m d r : Int) : spec_rdGood.f m d r = some (rOk m d r) := by
  simp only [spec_rdGood.f, spec_l1In_eq, Option.bind_some, rOk]
  by_cases a : 0 ≤ m ∧ m ≤ 2000
  · by_cases b : 1 ≤ d ∧ d ≤ 200
    · by_cases c : r = 0
      · simp [a, b, c]
      · simp [a, b, c]
    · simp [a, b]
  · simp [a]
/-- On how many of so many days something is read. -/
def nread (r day : Int) : Int := day - (if r > 0 then day / r else 0)
theorem nread_bd {m d r : Int} (h : rOk m d r = true) (day : Int) (hd : 0 ≤ day) : 0 ≤ nread r day ∧ nread r day ≤ day ∧ day ≤ 2 * nread r day := by
  have hr := (rOk_is h).2.2
  unfold nread
  by_cases c : r > 0
  · rw [if_pos c]
    have h1 := Int.ediv_nonneg hd (show 0 ≤ r by omega)
    have h2 := Int.ediv_mul_le day (show r ≠ 0 by omega)
    have h3 := Int.mul_le_mul_of_nonneg_left (show (2 : Int) ≤ r by omega) h1
    omega
  · rw [if_neg c]
    omega
/-- The last page behind so many days. -/
def aft (m d r day : Int) : Int := m + d * nread r day
theorem aft_bd {m d r : Int} (h : rOk m d r = true) (day : Int) (hd : 0 ≤ day ∧ day ≤ 10000) : m + nread r day ≤ aft m d r day ∧ aft m d r day ≤ 2002000 ∧ 0 ≤ d * nread r day ∧ d * nread r day ≤ 2000000 := by
  obtain ⟨h1, h2, h3⟩ := rOk_is h
  have h4 := nread_bd h day hd.1
  have h5 : 1 * nread r day ≤ d * nread r day := Int.mul_le_mul_of_nonneg_right h2.1 h4.1
  have h6 : d * nread r day ≤ 200 * 10000 := Int.mul_le_mul h2.2 (by omega) h4.1 (by omega)
  unfold aft
  omega
theorem spec_rdFree_eq {m d r : Int} (h : rOk m d r = true) (day : Int) (hd : 0 ≤ day ∧ day ≤ 10000) : spec_rdFree.f m d r day = some (aft m d r day) := by
  have h1 := rOk_is h
  have h2 := aft_bd h day hd
  have h3 := nread_bd h day hd.1
  unfold aft at h2
  simp only [spec_rdFree.f]
  unfold aft
  unfold nread at h2 h3 ⊢
  by_cases c : r > 0
  · rw [if_pos c] at h2 h3 ⊢
    rw [if_pos c, if_neg (by omega), Int.tdiv_eq_ediv_of_nonneg hd.1, w64 (x := day / r) (by omega) (by omega), w64 (x := day - day / r) (by omega) (by omega), Int.mul_comm (day - day / r) d, w64 (x := d * (day - day / r)) (by omega) (by omega), w64 (by omega) (by omega)]
  · rw [if_neg c] at h2 h3 ⊢
    rw [if_neg c]
    rw [Int.sub_zero] at h2 h3 ⊢
    rw [Int.mul_comm day d, w64 (x := d * day) (by omega) (by omega), w64 (by omega) (by omega)]

theorem spec_bpBook_eq (p : Int) : spec_bpBook.f p = some (decide (1 ≤ p ∧ p ≤ 2000)) := by
  simp only [spec_bpBook.f, spec_l1In_eq, Option.bind_some]

def rBook (p m d r : Int) : Bool := decide (1 ≤ p ∧ p ≤ 2000) && (rOk m d r && decide (m ≤ p))
theorem rBook_is {p m d r : Int} (h : rBook p m d r = true) : (1 ≤ p ∧ p ≤ 2000) ∧ rOk m d r = true ∧ m ≤ p := by
  simp only [rBook, Bool.and_eq_true, decide_eq_true_eq] at h
  exact h
theorem spec_rdBook_eq (p m d r : Int) : spec_rdBook.f p m d r = some (rBook p m d r) := by
  simp only [spec_rdBook.f, spec_bpBook_eq, spec_rdGood_eq, Option.bind_some, rBook]
  by_cases a : 1 ≤ p ∧ p ≤ 2000
  · by_cases b : rOk m d r = true
    · simp [a, b]
    · simp [a, b]
  · simp [a]

/-- The law's own readers, as the reference's. -/
def rdrs (l : List S23) : List S26 := l.map fun x => ⟨x.f0, x.f1, x.f2⟩
theorem rdrs_len (l : List S23) : (rdrs l).length = l.length := by simp [rdrs]
theorem rd23_nat (l : List S23) (i : Nat) (h : i < l.length) : rd_T23 l (i : Int) = l[i] := by
  unfold rd_T23
  rw [Int.toNat_natCast, List.getD_eq_getElem?_getD, List.getElem?_eq_getElem h]
  rfl
theorem rd26_nat (l : List S26) (i : Nat) (h : i < l.length) : rd_T26 l (i : Int) = l[i] := by
  unfold rd_T26
  rw [Int.toNat_natCast, List.getD_eq_getElem?_getD, List.getElem?_eq_getElem h]
  rfl
theorem laws_szReaderS_ok (l : List S23) (h : l.length ≤ 1048576) : laws_szReaderS.f l 1048576 = some (1048576 - (l.length : Int)) := by
  simp only [laws_szReaderS.f]
  rw [w64 (by omega) (by omega), if_neg (by omega)]
theorem laws_szReaderS_no (l : List S23) (h : ¬ l.length ≤ 1048576) (hm : l.length ≤ maxLen) : laws_szReaderS.f l 1048576 = some (-1) := by
  unfold maxLen at hm
  simp only [laws_szReaderS.f]
  rw [w64 (by omega) (by omega), if_pos (by omega)]
theorem laws_toReaderS_ev (l : List S23) (hl : l.length ≤ 1048576) : Ev (fun k => laws_toReaderS.f k l) (rdrs l) := by
  have key : ∀ (d i : Nat), i + d = l.length → Ev (fun k => laws_toReaderS.l0 k l ((rdrs l).take i ++ List.replicate d z26) (i : Int)) (rdrs l) := by
    intro d
    induction d with
    | zero =>
      intro i h
      refine ev_succ ?_
      simp only [laws_toReaderS.l0]
      refine ev_else (by omega) ?_
      refine ev_ret ?_
      rw [List.take_of_length_le (by rw [rdrs_len]; omega)]
      simp
    | succ d ih =>
      intro i h
      have hi' : i < l.length := by omega
      have hi2 : i < (rdrs l).length := by rw [rdrs_len]; exact hi'
      refine Ev.step (f := fun k => laws_toReaderS.l0 k l ((rdrs l).take (i + 1) ++ List.replicate d z26) ((i + 1 : Nat) : Int)) (fun k => ?_) (ih (i + 1) (by omega))
      simp only [laws_toReaderS.l0, laws_toReader.f, Option.bind_some]
      rw [if_pos (by omega), if_pos (by omega), if_pos (by simp [rdrs_len]; omega), rd23_nat l i hi', w64s (by omega), Int.toNat_natCast, List.replicate_succ, set_app _ _ _ _ _ (by simp [rdrs_len]; omega), List.take_succ_eq_append_getElem hi2]
      simp only [List.append_assoc, List.cons_append, List.nil_append]
      simp [rdrs]
  refine ev_eq (f := fun k => laws_toReaderS.l0 k l ((rdrs l).take 0 ++ List.replicate l.length z26) ((0 : Nat) : Int)) ?_ (key l.length 0 (by omega))
  funext k
  simp only [laws_toReaderS.f]
  rw [if_pos (by omega), if_pos (by omega)]
  simp
theorem laws_eqReaderS_ev (a : List S26) (hl : a.length ≤ 4611686018427387903) : Ev (fun k => laws_eqReaderS.f k a a) true := by
  have key : ∀ (d i : Nat), i + d = a.length → Ev (fun k => laws_eqReaderS.l0 k a a (i : Int)) true := by
    intro d
    induction d with
    | zero =>
      intro i h
      refine ev_succ ?_
      simp only [laws_eqReaderS.l0]
      refine ev_else (by omega) ?_
      exact Ev.now _
    | succ d ih =>
      intro i h
      refine Ev.step (f := fun k => laws_eqReaderS.l0 k a a ((i + 1 : Nat) : Int)) (fun k => ?_) (ih (i + 1) (by omega))
      simp only [laws_eqReaderS.l0, laws_eqReader.f, if_true, Option.bind_some]
      rw [if_pos (by omega), if_pos (by omega), if_pos (by omega), w64s (by omega)]
  refine ev_eq (f := fun k => laws_eqReaderS.l0 k a a ((0 : Nat) : Int)) ?_ (key a.length 0 (by omega))
  funext k
  simp only [laws_eqReaderS.f, if_true]
  rfl
theorem spec_rdAll_ev (p : Int) (l : List S26) (hl : l.length ≤ 1048576) : Ev (fun k => spec_rdAll.f k p l) (decide (1 ≤ (l.length : Int) ∧ (l.length : Int) ≤ 6) && l.all fun x => rBook p x.f0 x.f1 x.f2) := by
  have key : ∀ (d i : Nat), i + d = l.length → Ev (fun k => spec_rdAll.l0 k p l (l.length : Int) (i : Int)) ((l.drop i).all fun x => rBook p x.f0 x.f1 x.f2) := by
    intro d
    induction d with
    | zero =>
      intro i h
      rw [List.drop_eq_nil_of_le (by omega)]
      refine ev_succ ?_
      simp only [spec_rdAll.l0]
      refine ev_else (by omega) ?_
      exact Ev.now _
    | succ d ih =>
      intro i h
      have h1 : i < l.length := by omega
      rw [List.drop_eq_getElem_cons h1]
      refine Ev.step (f := fun k => if rBook p l[i].f0 l[i].f1 l[i].f2 = true then spec_rdAll.l0 k p l (l.length : Int) ((i + 1 : Nat) : Int) else some false) (fun k => by simp only [spec_rdAll.l0]; rw [if_pos (by omega), if_pos (by omega), if_pos (by omega), rd26_nat l i h1, w64s (by omega), spec_rdBook_eq]; rfl) ?_
      by_cases c : rBook p l[i].f0 l[i].f1 l[i].f2 = true
      · simp only [c, if_true, List.all_cons, Bool.true_and]
        exact ih (i + 1) (by omega)
      · simp only [c, Bool.false_eq_true, if_false, List.all_cons, Bool.false_and]
        exact Ev.now _
  simp only [spec_rdAll.f]
  refine ev_some (spec_l1In_eq _ _ _) ?_
  by_cases a : 1 ≤ (l.length : Int) ∧ (l.length : Int) ≤ 6
  · simp only [a, and_self, decide_true, if_true, Bool.true_and]
    exact key l.length 0 (by omega)
  · simp only [a, decide_false, Bool.false_and, Bool.false_eq_true, if_false]
    exact Ev.now _
theorem goodR_eq (x : S26) : impl_goodR x = rOk x.f0 x.f1 x.f2 := rfl
theorem impl_isGroup_eq (l : List S26) : impl_isGroup.f l = some (decide (1 ≤ (l.length : Int) ∧ (l.length : Int) ≤ 6)) := by
  simp only [impl_isGroup.f, impl_within_eq, Option.bind_some]

theorem div_is {a b q : Int} (hb : 0 < b) (h1 : q * b ≤ a) (h2 : a < (q + 1) * b) : a / b = q := by
  have h3 := Int.le_ediv_of_mul_le hb h1
  have h4 := Int.ediv_lt_of_lt_mul hb h2
  omega

/-- One day more: read, or rested. -/
theorem nread_step (r day : Int) (hr : r = 0 ∨ 2 ≤ r) (hd : 1 ≤ day) : nread r day - nread r (day - 1) = if r > 0 ∧ day % r = 0 then 0 else 1 := by
  unfold nread
  by_cases c : r > 0
  · rw [if_pos c, if_pos c]
    have h1 := Int.mul_ediv_add_emod day r
    have h2 := Int.emod_nonneg day (show r ≠ 0 by omega)
    have h3 := Int.emod_lt_of_pos day c
    have h4 : r * (day / r) = day / r * r := Int.mul_comm _ _
    generalize day / r = q at *
    generalize day % r = s at *
    by_cases e : s = 0
    · have h5 : (day - 1) / r = q - 1 := by
        refine div_is c ?_ ?_
        · rw [Int.sub_mul, Int.one_mul]
          omega
        · rw [show q - 1 + 1 = q by omega]
          omega
      rw [h5, if_pos ⟨c, e⟩]
      omega
    · have h5 : (day - 1) / r = q := by
        refine div_is c (by omega) ?_
        rw [Int.add_mul, Int.one_mul]
        omega
      rw [h5, if_neg (fun h => e h.2)]
      omega
  · rw [if_neg c, if_neg c, if_neg (fun h => c h.1)]
    omega
theorem aft_step (m d r day : Int) (hr : r = 0 ∨ 2 ≤ r) (hd : 1 ≤ day) : aft m d r day - aft m d r (day - 1) = if r > 0 ∧ day % r = 0 then 0 else d := by
  have h := nread_step r day hr hd
  unfold aft
  have e : m + d * nread r day - (m + d * nread r (day - 1)) = d * (nread r day - nread r (day - 1)) := by
    rw [Int.mul_sub]
    omega
  rw [e, h]
  split
  · rw [Int.mul_zero]
  · rw [Int.mul_one]
theorem impl_on_eq {m d r : Int} (h : rOk m d r = true) (day : Int) (hd : 1 ≤ day ∧ day ≤ 10000) : impl_Reader_on.f m d r day = some (aft m d r day - aft m d r (day - 1)) := by
  have h1 := rOk_is h
  rw [aft_step m d r day (by omega) hd.1]
  simp only [impl_Reader_on.f]
  by_cases c : r > 0
  · rw [if_pos c, if_neg (by omega), Int.tmod_eq_emod_of_nonneg (by omega)]
    by_cases e : day % r = 0
    · rw [if_pos e, if_pos ⟨c, e⟩]
    · rw [if_neg e, if_neg (fun h => e h.2)]
  · rw [if_neg c, if_neg (fun h => c h.1)]

theorem impl_isDay_eq (d : Int) : impl_isDay.f d = some (decide (1 ≤ d ∧ d ≤ 3000)) := by
  simp only [impl_isDay.f, impl_within_eq, Option.bind_some]
theorem all_2000 (l : List S26) : (l.all fun x => rBook 2000 x.f0 x.f1 x.f2) = l.all impl_goodR := by
  congr 1
  funext x
  rw [goodR_eq, rBook]
  by_cases h : rOk x.f0 x.f1 x.f2 = true
  · have h1 := rOk_is h
    simp [h, h1.1.2]
  · simp [h]
theorem sums (l : List S26) (day : Int) (hd : 1 ≤ day ∧ day ≤ 3000) (h6 : l.length ≤ 6) (ha : ∀ x ∈ l, rOk x.f0 x.f1 x.f2 = true) : ∃ e, Ev (fun k => spec_TogetherPages.l0 k day 0 l (l.length : Int) 0) (e, true) ∧ Ev (fun k => impl_TogetherPages.l0 k day 0 l (l.length : Int) 0) (e, true) := by
  have key : ∀ (d i : Nat) (s : Int), i + d = l.length → 0 ≤ s → s ≤ 5000000 * (i : Int) → ∃ e, Ev (fun k => spec_TogetherPages.l0 k day s l (l.length : Int) (i : Int)) (e, true) ∧ Ev (fun k => impl_TogetherPages.l0 k day s l (l.length : Int) (i : Int)) (e, true) := by
    intro d
    induction d with
    | zero =>
      intro i s h h0 h1
      refine ⟨s, ev_succ ?_, ev_succ ?_⟩
      · simp only [spec_TogetherPages.l0]
        refine ev_else (by omega) ?_
        exact Ev.now _
      · simp only [impl_TogetherPages.l0]
        refine ev_else (by omega) ?_
        exact Ev.now _
    | succ d ih =>
      intro i s h h0 h1
      have hi : i < l.length := by omega
      have hx := ha l[i] (List.getElem_mem hi)
      have b1 := aft_bd hx day (by omega)
      have b2 := aft_bd hx (day - 1) (by omega)
      have b3 := aft_step l[i].f0 l[i].f1 l[i].f2 day (by have := rOk_is hx; omega) hd.1
      have b4 := rOk_is hx
      have b5 : 0 ≤ aft l[i].f0 l[i].f1 l[i].f2 day - aft l[i].f0 l[i].f1 l[i].f2 (day - 1) := by
        rw [b3]
        split <;> omega
      have b6 : aft l[i].f0 l[i].f1 l[i].f2 day - aft l[i].f0 l[i].f1 l[i].f2 (day - 1) ≤ 200 := by
        rw [b3]
        split <;> omega
      obtain ⟨e, e1, e2⟩ := ih (i + 1) (s + (aft l[i].f0 l[i].f1 l[i].f2 day - aft l[i].f0 l[i].f1 l[i].f2 (day - 1))) (by omega) (by omega) (by omega)
      refine ⟨e, ev_succ ?_, ev_succ ?_⟩
      · simp only [spec_TogetherPages.l0, rd26_nat l i hi]
        refine ev_if (by omega) (ev_if (by omega) (ev_if (by omega) ?_))
        rw [w64 (x := day - 1) (by omega) (by omega)]
        simp only [spec_rdFree_eq hx day (by omega), spec_rdFree_eq hx (day - 1) (by omega), Option.bind_some]
        rw [w64 (x := aft l[i].f0 l[i].f1 l[i].f2 day - aft l[i].f0 l[i].f1 l[i].f2 (day - 1)) (by omega) (by omega), w64 (x := s + _) (by omega) (by omega), w64s (by omega)]
        exact e1
      · simp only [impl_TogetherPages.l0, rd26_nat l i hi]
        refine ev_if (by omega) (ev_if (by omega) (ev_if (by omega) ?_))
        simp only [impl_on_eq hx day (by omega), Option.bind_some]
        rw [w64 (x := s + _) (by omega) (by omega), w64s (by omega)]
        exact e2
  exact key l.length 0 0 (by omega) (by omega) (by omega)
theorem same (l : List S26) (day : Int) (hl : l.length ≤ 1048576) : ∃ e, Ev (fun k => spec_TogetherPages.f k l day) e ∧ Ev (fun k => impl_TogetherPages.f k l day) e := by
  have s0 : Ev (fun k => spec_TogetherPages.j0 k l day true) (0, false) := by
    refine ev_succ ?_
    simp only [spec_TogetherPages.j0, if_true]
    exact Ev.now _
  have i0 : Ev (fun k => impl_TogetherPages.j0 k l day true) (0, false) := by
    refine ev_succ ?_
    simp only [impl_TogetherPages.j0, if_true]
    exact Ev.now _
  have hs := spec_rdAll_ev 2000 l hl
  rw [all_2000] at hs
  by_cases a : 1 ≤ (l.length : Int) ∧ (l.length : Int) ≤ 6
  · by_cases b : l.all impl_goodR = true
    · by_cases c : 1 ≤ day ∧ day ≤ 3000
      · obtain ⟨e, e1, e2⟩ := sums l day c (by omega) (fun x hx => by rw [← goodR_eq]; exact List.all_eq_true.1 b x hx)
        refine ⟨(e, true), ?_, ?_⟩
        · simp only [spec_TogetherPages.f]
          refine Ev.bind hs ?_
          simp only [a, b, and_self, decide_true, Bool.and_self, if_true, spec_l1In_eq, c, Option.bind_some, Bool.not_true]
          refine ev_succ ?_
          simp only [spec_TogetherPages.j0, Bool.false_eq_true, if_false]
          exact e1
        · simp only [impl_TogetherPages.f, impl_areReaders.f, impl_isGroup_eq, impl_isDay_eq, Option.bind_some, a, b, c, and_self, decide_true, if_true, Bool.not_true]
          refine ev_succ ?_
          simp only [impl_TogetherPages.j0, Bool.false_eq_true, if_false]
          exact e2
      · refine ⟨(0, false), ?_, ?_⟩
        · simp only [spec_TogetherPages.f]
          refine Ev.bind hs ?_
          simp only [a, b, and_self, decide_true, Bool.and_self, if_true, spec_l1In_eq, c, decide_false, Option.bind_some, Bool.not_false]
          exact s0
        · simp only [impl_TogetherPages.f, impl_areReaders.f, impl_isGroup_eq, impl_isDay_eq, Option.bind_some, a, b, c, and_self, decide_true, decide_false, if_true, Bool.not_false]
          exact i0
    · refine ⟨(0, false), ?_, ?_⟩
      · simp only [spec_TogetherPages.f]
        refine Ev.bind hs ?_
        simp only [b, Bool.and_false, Bool.false_eq_true, if_false]
        exact s0
      · simp only [impl_TogetherPages.f, impl_areReaders.f, Option.bind_some, b, Bool.false_eq_true, if_false]
        exact i0
  · refine ⟨(0, false), ?_, ?_⟩
    · simp only [spec_TogetherPages.f]
      refine Ev.bind hs ?_
      simp only [a, decide_false, Bool.false_and, Bool.false_eq_true, if_false]
      exact s0
    · simp only [impl_TogetherPages.f, impl_areReaders.f, impl_isGroup_eq, Option.bind_some, a, decide_false, Bool.false_eq_true, if_false, Bool.not_false]
      by_cases b : l.all impl_goodR = true
      · simp only [b, if_true]
        exact i0
      · simp only [b, Bool.false_eq_true, if_false]
        exact i0
theorem FnExactTogetherPages : ∀ (l0 : List S23) (a1 : Int), l0.length ≤ maxLen → (∀ x ∈ l0, (Lit.int .i64 x.f0).wf = true ∧ (Lit.int .i64 x.f1).wf = true ∧ (Lit.int .i64 x.f2).wf = true) → (Lit.int .i64 a1).wf = true → ∃ k, laws_FnExactTogetherPages.f k l0 a1 = some true := by
  intro l0 a1 hm hw wa
  refine Ev.rounds (r := true) ?_
  by_cases c : l0.length ≤ 1048576
  · obtain ⟨r, h1, h2⟩ := same (rdrs l0) a1 (by rw [rdrs_len]; exact c)
    have ht := laws_toReaderS_ev l0 c
    have he := laws_eqReaderS_ev (rdrs l0) (by rw [rdrs_len]; omega)
    simp only [laws_FnExactTogetherPages.f, laws_szReaderS_ok l0 c, Option.bind_some]
    refine ev_else (by omega) ?_
    repeat (first
      | exact Ev.now _
      | (dsimp only)
      | (with_reducible refine Ev.bind h1 ?_)
      | (with_reducible refine Ev.bind h2 ?_)
      | (with_reducible refine Ev.bind ht ?_)
      | (with_reducible refine Ev.bind he ?_)
      | (simp only [decide_true, if_true, bne_self_eq_false, Bool.false_eq_true, if_false, neg_no])
      | (refine ev_succ ?_; simp only [laws_FnExactTogetherPages.j0]))
  · simp only [laws_FnExactTogetherPages.f, laws_szReaderS_no l0 c hm, Option.bind_some]
    exact ev_if (by omega) (Ev.now _)

end Go.Proofs.Ytdnknmodffigdaa.Pure
