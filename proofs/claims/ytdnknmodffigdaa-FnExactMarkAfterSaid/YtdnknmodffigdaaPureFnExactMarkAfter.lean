/- The plain law behind FnExactMarkAfter, in lists and numbers alone: the program's and the reference's mark after days are one. No condition beyond the printed bounds. -/
import Derived.Test.YtdnknmodffigdaaXFnExactMarkAfterx2
set_option linter.unusedVariables false
set_option linter.unusedSimpArgs false
namespace Go.Proofs.Ytdnknmodffigdaa.Pure
open Go.RowKit Go.Proofs.Ytdnknmodffigdaa.XFnExactMarkAfter Go.Proofs.YtdnknmodffigdaaW.PrintWords Go.Proofs.YtdnknmodffigdaaW.PrintLast Go.Proofs.YtdnknmodffigdaaW.PrintMore
/-! ### Small words: rounds, reads, sums without a wrap. -/
theorem ev_some {α β : Type} {g : Option α} {f : Nat → α → Option β} {a : α} {r : β} (h : g = some a) (k : Ev (fun n => f n a) r) : Ev (fun n => g.bind (f n)) r := by
  subst h
  exact k
theorem ev_ret {α : Type} {r s : α} (h : r = s) : Ev (fun _ => some r) s := by
  subst h
  exact Ev.now r
theorem ev_map {α β : Type} {g : Nat → Option α} {f : α → β} {a : α} {r : β} (h : Ev g a) (e : f a = r) : Ev (fun n => (g n).bind fun t => some (f t)) r := Ev.bind h (ev_ret e)
theorem ev_eq {α : Type} {g f : Nat → Option α} {r : α} (h : g = f) (k : Ev f r) : Ev g r := by
  rw [h]
  exact k
theorem w64 {x : Int} (h0 : -9223372036854775808 ≤ x) (h1 : x ≤ 9223372036854775807) : wrap64 x = x := by
  unfold wrap64
  omega
theorem w64s {i : Nat} (h : i < 4611686018427387904) : wrap64 ((i : Int) + 1) = ((i + 1 : Nat) : Int) := by
  rw [w64 (by omega) (by omega)]
  rfl
theorem rd_nat (l : List Int) (i : Nat) (h : i < l.length) : rd l (i : Int) = l[i] := by
  unfold rd
  rw [Int.toNat_natCast, List.getD_eq_getElem?_getD, List.getElem?_eq_getElem h]
  rfl
theorem wf_i64 {x : Int} (h : (Lit.int .i64 x).wf = true) : -9223372036854775808 ≤ x ∧ x ≤ 9223372036854775807 := by
  simp only [Lit.wf, Bool.and_eq_true, decide_eq_true_eq] at h
  exact h
theorem ev_succ {α : Type} {g : Nat → Option α} {r : α} (h : Ev (fun k => g (k + 1)) r) : Ev g r := Ev.step (fun _ => rfl) h
theorem neg_no (n : Nat) : ¬ (1 + (n : Int) < 0) := by omega
theorem ev_if {α : Type} {c : Prop} [Decidable c] {g f : Nat → Option α} {r : α} (h : c) (k : Ev g r) : Ev (fun n => if c then g n else f n) r := Ev.congr (fun _ => if_pos h) k
theorem ev_else {α : Type} {c : Prop} [Decidable c] {g f : Nat → Option α} {r : α} (h : ¬ c) (k : Ev f r) : Ev (fun n => if c then g n else f n) r := Ev.congr (fun _ => if_neg h) k

theorem spec_l1In_eq (x lo hi : Int) : spec_l1In.f x lo hi = some (decide (lo ≤ x ∧ x ≤ hi)) := by
  unfold spec_l1In.f
  by_cases c : x ≥ lo
  · rw [if_pos c]
    congr 1
    simp only [c, true_and]
  · rw [if_neg c]
    congr 1
    exact (decide_eq_false (fun h => c h.1)).symm

theorem impl_within_eq (x lo hi : Int) : impl_within.f x lo hi = some (decide (lo ≤ x ∧ x ≤ hi)) := by
  unfold impl_within.f
  by_cases c : x ≥ lo
  · rw [if_pos c]
    congr 1
    simp only [c, true_and]
  · rw [if_neg c]
    congr 1
    exact (decide_eq_false (fun h => c h.1)).symm

def rOk (m d r : Int) : Bool := decide (0 ≤ m ∧ m ≤ 2000) && (decide (1 ≤ d ∧ d ≤ 200) && (decide (r = 0) || decide (2 ≤ r ∧ r ≤ 60)))
theorem rOk_is {m d r : Int} (h : rOk m d r = true) : (0 ≤ m ∧ m ≤ 2000) ∧ (1 ≤ d ∧ d ≤ 200) ∧ (r = 0 ∨ 2 ≤ r ∧ r ≤ 60) := by
  simp only [rOk, Bool.and_eq_true, Bool.or_eq_true, decide_eq_true_eq] at h
  exact h
theorem spec_rdGood_eq (m d r : Int) : spec_rdGood.f m d r = some (rOk m d r) := by
  simp only [spec_rdGood.f, spec_l1In_eq, Option.bind_some, rOk]
  by_cases a : 0 ≤ m ∧ m ≤ 2000
  · by_cases b : 1 ≤ d ∧ d ≤ 200
    · by_cases c : r = 0
      · simp [a, b, c]
      · simp [a, b, c]
    · simp [a, b]
  · simp [a]
/-- On how many of so many days something is read. -/
def nread (r day : Int) : Int := day - (if r > 0 then day / r else 0)
theorem nread_bd {m d r : Int} (h : rOk m d r = true) (day : Int) (hd : 0 ≤ day) : 0 ≤ nread r day ∧ nread r day ≤ day ∧ day ≤ 2 * nread r day := by
  have hr := (rOk_is h).2.2
  unfold nread
  by_cases c : r > 0
  · rw [if_pos c]
    have h1 := Int.ediv_nonneg hd (show 0 ≤ r by omega)
    have h2 := Int.ediv_mul_le day (show r ≠ 0 by omega)
    have h3 := Int.mul_le_mul_of_nonneg_left (show (2 : Int) ≤ r by omega) h1
    omega
  · rw [if_neg c]
    omega
/-- The last page behind so many days. -/
def aft (m d r day : Int) : Int := m + d * nread r day
theorem aft_bd {m d r : Int} (h : rOk m d r = true) (day : Int) (hd : 0 ≤ day ∧ day ≤ 10000) : m + nread r day ≤ aft m d r day ∧ aft m d r day ≤ 2002000 ∧ 0 ≤ d * nread r day ∧ d * nread r day ≤ 2000000 := by
  obtain ⟨h1, h2, h3⟩ := rOk_is h
  have h4 := nread_bd h day hd.1
  have h5 : 1 * nread r day ≤ d * nread r day := Int.mul_le_mul_of_nonneg_right h2.1 h4.1
  have h6 : d * nread r day ≤ 200 * 10000 := Int.mul_le_mul h2.2 (by omega) h4.1 (by omega)
  unfold aft
  omega
theorem spec_rdFree_eq {m d r : Int} (h : rOk m d r = true) (day : Int) (hd : 0 ≤ day ∧ day ≤ 10000) : spec_rdFree.f m d r day = some (aft m d r day) := by
  have h1 := rOk_is h
  have h2 := aft_bd h day hd
  have h3 := nread_bd h day hd.1
  unfold aft at h2
  simp only [spec_rdFree.f]
  unfold aft
  unfold nread at h2 h3 ⊢
  by_cases c : r > 0
  · rw [if_pos c] at h2 h3 ⊢
    rw [if_pos c, if_neg (by omega), Int.tdiv_eq_ediv_of_nonneg hd.1, w64 (x := day / r) (by omega) (by omega), w64 (x := day - day / r) (by omega) (by omega), Int.mul_comm (day - day / r) d, w64 (x := d * (day - day / r)) (by omega) (by omega), w64 (by omega) (by omega)]
  · rw [if_neg c] at h2 h3 ⊢
    rw [if_neg c]
    rw [Int.sub_zero] at h2 h3 ⊢
    rw [Int.mul_comm day d, w64 (x := d * day) (by omega) (by omega), w64 (by omega) (by omega)]

theorem impl_after_eq {m d r : Int} (h : rOk m d r = true) (day : Int) (hd : 0 ≤ day ∧ day ≤ 10000) : impl_Reader_after.f m d r day = some (aft m d r day) := by
  have h1 := rOk_is h
  have h2 := aft_bd h day hd
  have h3 := nread_bd h day hd.1
  unfold aft at h2
  simp only [impl_Reader_after.f]
  unfold aft
  unfold nread at h2 h3 ⊢
  by_cases c : r > 0
  · rw [if_pos c] at h2 h3 ⊢
    rw [if_pos c, if_neg (by omega), Int.tdiv_eq_ediv_of_nonneg hd.1, w64 (x := day / r) (by omega) (by omega), w64 (x := day - day / r) (by omega) (by omega), w64 (x := d * (day - day / r)) (by omega) (by omega), w64 (by omega) (by omega)]
  · rw [if_neg c] at h2 h3 ⊢
    rw [if_neg c]
    rw [Int.sub_zero] at h2 h3 ⊢
    rw [w64 (x := d * day) (by omega) (by omega), w64 (by omega) (by omega)]

theorem spec_bpBook_eq (p : Int) : spec_bpBook.f p = some (decide (1 ≤ p ∧ p ≤ 2000)) := by
  simp only [spec_bpBook.f, spec_l1In_eq, Option.bind_some]
theorem impl_isBook_eq (p : Int) : impl_isBook.f p = some (decide (1 ≤ p ∧ p ≤ 2000)) := by
  simp only [impl_isBook.f, impl_within_eq, Option.bind_some]

def rBook (p m d r : Int) : Bool := decide (1 ≤ p ∧ p ≤ 2000) && (rOk m d r && decide (m ≤ p))
theorem rBook_is {p m d r : Int} (h : rBook p m d r = true) : (1 ≤ p ∧ p ≤ 2000) ∧ rOk m d r = true ∧ m ≤ p := by
  simp only [rBook, Bool.and_eq_true, decide_eq_true_eq] at h
  exact h
theorem spec_rdBook_eq (p m d r : Int) : spec_rdBook.f p m d r = some (rBook p m d r) := by
  simp only [spec_rdBook.f, spec_bpBook_eq, spec_rdGood_eq, Option.bind_some, rBook]
  by_cases a : 1 ≤ p ∧ p ≤ 2000
  · by_cases b : rOk m d r = true
    · simp [a, b]
    · simp [a, b]
  · simp [a]

theorem spec_l1Least_eq (a b : Int) : spec_l1Least.f a b = some (mn a b) := by
  unfold spec_l1Least.f mn
  by_cases c : a < b
  · rw [if_pos c, if_neg (by omega)]
  · rw [if_neg c]
    by_cases e : b < a
    · rw [if_pos e]
    · rw [if_neg e]
      exact congrArg some (by omega)
theorem same (p m d r n : Int) (wp : (Lit.int .i64 p).wf = true) (wm : (Lit.int .i64 m).wf = true) (wd : (Lit.int .i64 d).wf = true) (wr : (Lit.int .i64 r).wf = true) (wn : (Lit.int .i64 n).wf = true) : ∃ e, Ev (fun k => spec_MarkAfter.f k p m d r n) e ∧ Ev (fun _ => impl_MarkAfter.f p m d r n) e := by
  have hi : impl_areReadersOf.f p [⟨m, d, r⟩] = some (rBook p m d r) := by
    simp only [impl_areReadersOf.f, List.all_cons, List.all_nil, Bool.and_true, rBook]
    rfl
  have no : Ev (fun k => spec_MarkAfter.j0 k p n true m d r) (0, false) := by
    refine ev_succ ?_
    simp only [spec_MarkAfter.j0, if_true]
    exact Ev.now _
  simp only [spec_MarkAfter.f, impl_MarkAfter.f, spec_rdBook_eq, hi, spec_rdDay.f, impl_isDays.f, spec_l1In_eq, impl_within_eq, Option.bind_some]
  by_cases a : rBook p m d r = true
  · obtain ⟨h1, h2, h3⟩ := rBook_is a
    by_cases b : 0 ≤ n ∧ n ≤ 3000
    · refine ⟨(mn p (aft m d r n), true), ?_, ?_⟩
      · simp only [a, b, and_self, decide_true, if_true, Bool.not_true]
        refine ev_succ ?_
        simp only [spec_MarkAfter.j0, Bool.false_eq_true, if_false, spec_rdFree_eq h2 n (by omega), spec_l1Least_eq, Option.bind_some]
        exact Ev.now _
      · simp only [a, b, and_self, decide_true, if_true, impl_after_eq h2 n (by omega), Option.bind_some]
        exact Ev.now _
    · refine ⟨(0, false), ?_, ?_⟩
      · simp only [a, b, if_true, decide_false, Bool.not_false]
        exact no
      · simp only [a, b, if_true, decide_false, Bool.false_eq_true, if_false]
        exact Ev.now _
  · refine ⟨(0, false), ?_, ?_⟩
    · simp only [a, Bool.false_eq_true, if_false]
      exact no
    · simp only [a, Bool.false_eq_true, if_false]
      exact Ev.now _
theorem FnExactMarkAfter : ∀ (p : Int) (m : Int) (d : Int) (r : Int) (n : Int), (Lit.int .i64 p).wf = true → (Lit.int .i64 m).wf = true → (Lit.int .i64 d).wf = true → (Lit.int .i64 r).wf = true → (Lit.int .i64 n).wf = true → ∃ k, laws_FnExactMarkAfter.f k p m d r n = some true := by
  intro p m d r n wp wm wd wr wn
  refine Ev.rounds (r := true) ?_
  obtain ⟨r, h1, h2⟩ := same p m d r n wp wm wd wr wn
  simp only [laws_FnExactMarkAfter.f, laws_toReader.f, Option.bind_some]
  repeat (first
    | exact Ev.now _
    | (dsimp only)
    | (with_reducible refine Ev.bind h1 ?_)
    | (with_reducible refine Ev.bind h2 ?_)
    | (simp only [decide_true, if_true, bne_self_eq_false, Bool.false_eq_true, if_false, neg_no]))

end Go.Proofs.Ytdnknmodffigdaa.Pure
