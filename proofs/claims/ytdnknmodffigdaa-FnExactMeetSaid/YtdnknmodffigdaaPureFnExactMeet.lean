/- The plain law behind FnExactMeet, in lists and numbers alone: the program's and the reference's first day of meeting are one. No condition beyond the printed bounds. -/
import Derived.Test.YtdnknmodffigdaaXFnExactMeetx3
set_option linter.unusedVariables false
set_option linter.unusedSimpArgs false
namespace Go.Proofs.Ytdnknmodffigdaa.Pure
open Go.RowKit Go.Proofs.Ytdnknmodffigdaa.XFnExactMeet Go.Proofs.YtdnknmodffigdaaW.PrintWords Go.Proofs.YtdnknmodffigdaaW.PrintLast Go.Proofs.YtdnknmodffigdaaW.PrintMore
/-! ### Small words: rounds, reads, sums without a wrap. -/
theorem ev_some {α β : Type} {g : Option α} {f : Nat → α → Option β} {a : α} {r : β} (h : g = some a) (k : Ev (fun n => f n a) r) : Ev (fun n => g.bind (f n)) r := by
  subst h
  exact k
theorem ev_ret {α : Type} {r s : α} (h : r = s) : Ev (fun _ => some r) s := by
  subst h
  exact Ev.now r
theorem ev_map {α β : Type} {g : Nat → Option α} {f : α → β} {a : α} {r : β} (h : Ev g a) (e : f a = r) : Ev (fun n => (g n).bind fun t => some (f t)) r := Ev.bind h (ev_ret e)
theorem ev_eq {α : Type} {g f : Nat → Option α} {r : α} (h : g = f) (k : Ev f r) : Ev g r := by
  rw [h]
  exact k
theorem w64 {x : Int} (h0 : -9223372036854775808 ≤ x) (h1 : x ≤ 9223372036854775807) : wrap64 x = x := by
  unfold wrap64
  omega
theorem w64s {i : Nat} (h : i < 4611686018427387904) : wrap64 ((i : Int) + 1) = ((i + 1 : Nat) : Int) := by
  rw [w64 (by omega) (by omega)]
  rfl
theorem rd_nat (l : List Int) (i : Nat) (h : i < l.length) : rd l (i : Int) = l[i] := by
  unfold rd
  rw [Int.toNat_natCast, List.getD_eq_getElem?_getD, List.getElem?_eq_getElem h]
  rfl
theorem wf_i64 {x : Int} (h : (Lit.int .i64 x).wf = true) : -9223372036854775808 ≤ x ∧ x ≤ 9223372036854775807 := by
  simp only [Lit.wf, Bool.and_eq_true, decide_eq_true_eq] at h
  exact h
theorem ev_succ {α : Type} {g : Nat → Option α} {r : α} (h : Ev (fun k => g (k + 1)) r) : Ev g r := Ev.step (fun _ => rfl) h
theorem neg_no (n : Nat) : ¬ (1 + (n : Int) < 0) := by omega
theorem ev_if {α : Type} {c : Prop} [Decidable c] {g f : Nat → Option α} {r : α} (h : c) (k : Ev g r) : Ev (fun n => if c then g n else f n) r := Ev.congr (fun _ => if_pos h) k
theorem ev_else {α : Type} {c : Prop} [Decidable c] {g f : Nat → Option α} {r : α} (h : ¬ c) (k : Ev f r) : Ev (fun n => if c then g n else f n) r := Ev.congr (fun _ => if_neg h) k

theorem spec_l1In_eq (x lo hi : Int) : spec_l1In.f x lo hi = some (decide (lo ≤ x ∧ x ≤ hi)) := by
  unfold spec_l1In.f
  by_cases c : x ≥ lo
  · rw [if_pos c]
    congr 1
    simp only [c, true_and]
  · rw [if_neg c]
    congr 1
    exact (decide_eq_false (fun h => c h.1)).symm

theorem impl_within_eq (x lo hi : Int) : impl_within.f x lo hi = some (decide (lo ≤ x ∧ x ≤ hi)) := by
  unfold impl_within.f
  by_cases c : x ≥ lo
  · rw [if_pos c]
    congr 1
    simp only [c, true_and]
  · rw [if_neg c]
    congr 1
    exact (decide_eq_false (fun h => c h.1)).symm

def rOk (m d r : Int) : Bool := decide (0 ≤ m ∧ m ≤ 2000) && (decide (1 ≤ d ∧ d ≤ 200) && (decide (r = 0) || decide (2 ≤ r ∧ r ≤ 60)))
theorem rOk_is {m d r : Int} (h : rOk m d r = true) : (0 ≤ m ∧ m ≤ 2000) ∧ (1 ≤ d ∧ d ≤ 200) ∧ (r = 0 ∨ 2 ≤ r ∧ r ≤ 60) := by
  simp only [rOk, Bool.and_eq_true, Bool.or_eq_true, decide_eq_true_eq] at h
  exact h
theorem spec_rdGood_eq (m d r : Int) : spec_rdGood.f m d r = some (rOk m d r) := by
  simp only [spec_rdGood.f, spec_l1In_eq, Option.bind_some, rOk]
  by_cases a : 0 ≤ m ∧ m ≤ 2000
  · by_cases b : 1 ≤ d ∧ d ≤ 200
    · by_cases c : r = 0
      · simp [a, b, c]
      · simp [a, b, c]
    · simp [a, b]
  · simp [a]
/-- On how many of so many days something is read. -/
def nread (r day : Int) : Int := day - (if r > 0 then day / r else 0)
theorem nread_bd {m d r : Int} (h : rOk m d r = true) (day : Int) (hd : 0 ≤ day) : 0 ≤ nread r day ∧ nread r day ≤ day ∧ day ≤ 2 * nread r day := by
  have hr := (rOk_is h).2.2
  unfold nread
  by_cases c : r > 0
  · rw [if_pos c]
    have h1 := Int.ediv_nonneg hd (show 0 ≤ r by omega)
    have h2 := Int.ediv_mul_le day (show r ≠ 0 by omega)
    have h3 := Int.mul_le_mul_of_nonneg_left (show (2 : Int) ≤ r by omega) h1
    omega
  · rw [if_neg c]
    omega
/-- The last page behind so many days. -/
def aft (m d r day : Int) : Int := m + d * nread r day
theorem aft_bd {m d r : Int} (h : rOk m d r = true) (day : Int) (hd : 0 ≤ day ∧ day ≤ 10000) : m + nread r day ≤ aft m d r day ∧ aft m d r day ≤ 2002000 ∧ 0 ≤ d * nread r day ∧ d * nread r day ≤ 2000000 := by
  obtain ⟨h1, h2, h3⟩ := rOk_is h
  have h4 := nread_bd h day hd.1
  have h5 : 1 * nread r day ≤ d * nread r day := Int.mul_le_mul_of_nonneg_right h2.1 h4.1
  have h6 : d * nread r day ≤ 200 * 10000 := Int.mul_le_mul h2.2 (by omega) h4.1 (by omega)
  unfold aft
  omega
theorem spec_rdFree_eq {m d r : Int} (h : rOk m d r = true) (day : Int) (hd : 0 ≤ day ∧ day ≤ 10000) : spec_rdFree.f m d r day = some (aft m d r day) := by
  have h1 := rOk_is h
  have h2 := aft_bd h day hd
  have h3 := nread_bd h day hd.1
  unfold aft at h2
  simp only [spec_rdFree.f]
  unfold aft
  unfold nread at h2 h3 ⊢
  by_cases c : r > 0
  · rw [if_pos c] at h2 h3 ⊢
    rw [if_pos c, if_neg (by omega), Int.tdiv_eq_ediv_of_nonneg hd.1, w64 (x := day / r) (by omega) (by omega), w64 (x := day - day / r) (by omega) (by omega), Int.mul_comm (day - day / r) d, w64 (x := d * (day - day / r)) (by omega) (by omega), w64 (by omega) (by omega)]
  · rw [if_neg c] at h2 h3 ⊢
    rw [if_neg c]
    rw [Int.sub_zero] at h2 h3 ⊢
    rw [Int.mul_comm day d, w64 (x := d * day) (by omega) (by omega), w64 (by omega) (by omega)]

theorem impl_after_eq {m d r : Int} (h : rOk m d r = true) (day : Int) (hd : 0 ≤ day ∧ day ≤ 10000) : impl_Reader_after.f m d r day = some (aft m d r day) := by
  have h1 := rOk_is h
  have h2 := aft_bd h day hd
  have h3 := nread_bd h day hd.1
  unfold aft at h2
  simp only [impl_Reader_after.f]
  unfold aft
  unfold nread at h2 h3 ⊢
  by_cases c : r > 0
  · rw [if_pos c] at h2 h3 ⊢
    rw [if_pos c, if_neg (by omega), Int.tdiv_eq_ediv_of_nonneg hd.1, w64 (x := day / r) (by omega) (by omega), w64 (x := day - day / r) (by omega) (by omega), w64 (x := d * (day - day / r)) (by omega) (by omega), w64 (by omega) (by omega)]
  · rw [if_neg c] at h2 h3 ⊢
    rw [if_neg c]
    rw [Int.sub_zero] at h2 h3 ⊢
    rw [w64 (x := d * day) (by omega) (by omega), w64 (by omega) (by omega)]

theorem spec_bpBook_eq (p : Int) : spec_bpBook.f p = some (decide (1 ≤ p ∧ p ≤ 2000)) := by
  simp only [spec_bpBook.f, spec_l1In_eq, Option.bind_some]
theorem impl_isBook_eq (p : Int) : impl_isBook.f p = some (decide (1 ≤ p ∧ p ≤ 2000)) := by
  simp only [impl_isBook.f, impl_within_eq, Option.bind_some]

def rBook (p m d r : Int) : Bool := decide (1 ≤ p ∧ p ≤ 2000) && (rOk m d r && decide (m ≤ p))
theorem rBook_is {p m d r : Int} (h : rBook p m d r = true) : (1 ≤ p ∧ p ≤ 2000) ∧ rOk m d r = true ∧ m ≤ p := by
  simp only [rBook, Bool.and_eq_true, decide_eq_true_eq] at h
  exact h
theorem spec_rdBook_eq (p m d r : Int) : spec_rdBook.f p m d r = some (rBook p m d r) := by
  simp only [spec_rdBook.f, spec_bpBook_eq, spec_rdGood_eq, Option.bind_some, rBook]
  by_cases a : 1 ≤ p ∧ p ≤ 2000
  · by_cases b : rOk m d r = true
    · simp [a, b]
    · simp [a, b]
  · simp [a]

theorem walk {p m d r m' d' r' : Int} (hp : p ≤ 2000) (a : rOk m d r = true) (a' : rOk m' d' r' = true) : ∀ (t : Nat) (day : Int), day + t = 4000 → 0 ≤ day → ∃ e, Ev (fun k => spec_Meet.l0 k p day m d r m' d' r') e ∧ Ev (fun k => impl_Meet.l0 k p day m d r m' d' r') e := by
  have stop : ∀ day : Int, 0 ≤ day → day ≤ 4000 → ¬ (aft m d r day < p ∧ aft m' d' r' day < p) → ∃ e, Ev (fun k => spec_Meet.l0 k p day m d r m' d' r') e ∧ Ev (fun k => impl_Meet.l0 k p day m d r m' d' r') e := by
    intro day h0 h1 hc
    have no : Ev (fun k => spec_Meet.j2 k p day false m d r m' d' r') (0, 0, false) ∧ Ev (fun k => impl_Meet.j1 k p day false m d r m' d' r') (0, 0, false) := by
      refine ⟨ev_succ ?_, ev_succ ?_⟩
      · simp only [spec_Meet.j2, Bool.false_eq_true, if_false]
        exact Ev.now _
      · simp only [impl_Meet.j1, Bool.false_eq_true, if_false]
        exact Ev.now _
    refine ⟨(0, 0, false), ev_succ ?_, ev_succ ?_⟩
    · simp only [spec_Meet.l0, spec_rdFree_eq a day (by omega), spec_rdFree_eq a' day (by omega), Option.bind_some]
      by_cases c : aft m d r day < p
      · refine ev_if c ?_
        rw [decide_eq_false (fun e => hc ⟨c, e⟩)]
        exact no.1
      · refine ev_else c ?_
        exact no.1
    · simp only [impl_Meet.l0, impl_after_eq a day (by omega), impl_after_eq a' day (by omega), Option.bind_some]
      by_cases c : aft m d r day < p
      · refine ev_if c ?_
        rw [decide_eq_false (fun e => hc ⟨c, e⟩)]
        exact no.2
      · refine ev_else c ?_
        exact no.2
  have hm := rOk_is a
  intro t
  induction t with
  | zero =>
    intro day hd h0
    have h1 := nread_bd a day h0
    have h2 := aft_bd a day (by omega)
    exact stop day h0 (by omega) (fun h => by omega)
  | succ t ih =>
    intro day hd h0
    by_cases c : aft m d r day < p ∧ aft m' d' r' day < p
    · by_cases e : aft m d r day = aft m' d' r' day
      · refine ⟨(day, aft m d r day, true), ev_succ ?_, ev_succ ?_⟩
        · simp only [spec_Meet.l0, spec_rdFree_eq a day (by omega), spec_rdFree_eq a' day (by omega), Option.bind_some]
          refine ev_if c.1 ?_
          rw [decide_eq_true c.2]
          refine ev_succ ?_
          simp only [spec_Meet.j2, if_true, spec_rdFree_eq a day (by omega), spec_rdFree_eq a' day (by omega), Option.bind_some]
          refine ev_if e ?_
          exact Ev.now _
        · simp only [impl_Meet.l0, impl_after_eq a day (by omega), impl_after_eq a' day (by omega), Option.bind_some]
          refine ev_if c.1 ?_
          rw [decide_eq_true c.2]
          refine ev_succ ?_
          simp only [impl_Meet.j1, if_true, impl_after_eq a day (by omega), impl_after_eq a' day (by omega), Option.bind_some]
          refine ev_if e ?_
          exact Ev.now _
      · obtain ⟨q, q1, q2⟩ := ih (day + 1) (by omega) (by omega)
        refine ⟨q, ev_succ ?_, ev_succ ?_⟩
        · simp only [spec_Meet.l0, spec_rdFree_eq a day (by omega), spec_rdFree_eq a' day (by omega), Option.bind_some]
          refine ev_if c.1 ?_
          rw [decide_eq_true c.2]
          refine ev_succ ?_
          simp only [spec_Meet.j2, if_true, spec_rdFree_eq a day (by omega), spec_rdFree_eq a' day (by omega), Option.bind_some]
          refine ev_else e ?_
          rw [w64 (x := day + 1) (by omega) (by omega)]
          exact q1
        · simp only [impl_Meet.l0, impl_after_eq a day (by omega), impl_after_eq a' day (by omega), Option.bind_some]
          refine ev_if c.1 ?_
          rw [decide_eq_true c.2]
          refine ev_succ ?_
          simp only [impl_Meet.j1, if_true, impl_after_eq a day (by omega), impl_after_eq a' day (by omega), Option.bind_some]
          refine ev_else e ?_
          rw [w64 (x := day + 1) (by omega) (by omega)]
          exact q2
    · exact stop day h0 (by omega) c
theorem same (p m d r m' d' r' : Int) (wp : (Lit.int .i64 p).wf = true) (wm : (Lit.int .i64 m).wf = true) (wd : (Lit.int .i64 d).wf = true) (wr : (Lit.int .i64 r).wf = true) (wm' : (Lit.int .i64 m').wf = true) (wd' : (Lit.int .i64 d').wf = true) (wr' : (Lit.int .i64 r').wf = true) : ∃ e, Ev (fun k => spec_Meet.f k p m d r m' d' r') e ∧ Ev (fun k => impl_Meet.f k p m d r m' d' r') e := by
  have no : Ev (fun k => spec_Meet.j0 k p true m d r m' d' r') (0, 0, false) := by
    refine ev_succ ?_
    simp only [spec_Meet.j0, if_true]
    exact Ev.now _
  have hi : impl_areReadersOf.f p [⟨m, d, r⟩, ⟨m', d', r'⟩] = some (rBook p m d r && rBook p m' d' r') := by
    simp only [impl_areReadersOf.f, List.all_cons, List.all_nil, Bool.and_true, rBook]
    show some (decide (1 ≤ p ∧ p ≤ 2000) && (rOk m d r && rOk m' d' r' && (decide (m ≤ p) && decide (m' ≤ p)))) = _
    generalize decide (1 ≤ p ∧ p ≤ 2000) = b1
    generalize rOk m d r = b2
    generalize rOk m' d' r' = b3
    generalize decide (m ≤ p) = b4
    generalize decide (m' ≤ p) = b5
    cases b1 <;> cases b2 <;> cases b3 <;> cases b4 <;> cases b5 <;> rfl
  simp only [spec_Meet.f, impl_Meet.f, spec_rdBook_eq, hi, Option.bind_some]
  by_cases a : rBook p m d r = true
  · by_cases a' : rBook p m' d' r' = true
    · obtain ⟨h1, h2, h3⟩ := rBook_is a
      obtain ⟨_, h2', _⟩ := rBook_is a'
      obtain ⟨e, e1, e2⟩ := walk h1.2 h2 h2' 4000 0 (by omega) (by omega)
      refine ⟨e, ?_, ?_⟩
      · simp only [a, a', if_true, Bool.not_true]
        refine ev_succ ?_
        simp only [spec_Meet.j0, Bool.false_eq_true, if_false]
        exact e1
      · simp only [a, a', if_true, Bool.and_self]
        exact e2
    · refine ⟨(0, 0, false), ?_, ?_⟩
      · simp only [a, a', if_true, Bool.not_false]
        exact no
      · simp only [a, a', Bool.and_false, Bool.false_eq_true, if_false]
        exact Ev.now _
  · refine ⟨(0, 0, false), ?_, ?_⟩
    · simp only [a, Bool.false_eq_true, if_false]
      exact no
    · simp only [a, Bool.false_and, Bool.false_eq_true, if_false]
      exact Ev.now _
theorem FnExactMeet : ∀ (p : Int) (m : Int) (d : Int) (r : Int) (m' : Int) (d' : Int) (r' : Int), (Lit.int .i64 p).wf = true → (Lit.int .i64 m).wf = true → (Lit.int .i64 d).wf = true → (Lit.int .i64 r).wf = true → (Lit.int .i64 m').wf = true → (Lit.int .i64 d').wf = true → (Lit.int .i64 r').wf = true → ∃ k, laws_FnExactMeet.f k p m d r m' d' r' = some true := by
  intro p m d r m' d' r' wp wm wd wr wm' wd' wr'
  refine Ev.rounds (r := true) ?_
  obtain ⟨r, h1, h2⟩ := same p m d r m' d' r' wp wm wd wr wm' wd' wr'
  simp only [laws_FnExactMeet.f, laws_toReader.f, Option.bind_some]
  repeat (first
    | exact Ev.now _
    | (dsimp only)
    | (with_reducible refine Ev.bind h1 ?_)
    | (with_reducible refine Ev.bind h2 ?_)
    | (simp only [decide_true, if_true, bne_self_eq_false, Bool.false_eq_true, if_false, neg_no]))

end Go.Proofs.Ytdnknmodffigdaa.Pure
