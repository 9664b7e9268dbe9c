/- The plain law behind FnExactDayOfPage, in lists and numbers alone: the program's and the reference's day of a page are one. No condition beyond the printed bounds. -/
import Derived.Test.YtdnknmodffigdaaXFnExactDayOfPagex1
set_option linter.unusedVariables false
set_option linter.unusedSimpArgs false
namespace Go.Proofs.Ytdnknmodffigdaa.Pure
open Go.RowKit Go.Proofs.Ytdnknmodffigdaa.XFnExactDayOfPage Go.Proofs.YtdnknmodffigdaaW.PrintWords Go.Proofs.YtdnknmodffigdaaW.PrintLast Go.Proofs.YtdnknmodffigdaaW.PrintMore
/-! ### Small words: rounds, reads, sums without a wrap. -/
theorem ev_some {α β : Type} {g : Option α} {f : Nat → α → Option β} {a : α} {r : β} (h : g = some a) (k : Ev (fun n => f n a) r) : Ev (fun n => g.bind (f n)) r := by
  subst h
  exact k
theorem ev_ret {α : Type} {r s : α} (h : r = s) : Ev (fun _ => some r) s := by
  subst h
  exact Ev.now r
theorem ev_map {α β : Type} {g : Nat → Option α} {f : α → β} {a : α} {r : β} (h : Ev g a) (e : f a = r) : Ev (fun n => (g n).bind fun t => some (f t)) r := Ev.bind h (ev_ret e)
theorem ev_eq {α : Type} {g f : Nat → Option α} {r : α} (h : g = f) (k : Ev f r) : Ev g r := by
  rw [h]
  exact k
theorem w64 {x : Int} (h0 : -9223372036854775808 ≤ x) (h1 : x ≤ 9223372036854775807) : wrap64 x = x := by
  unfold wrap64
  omega
theorem w64s {i : Nat} (h : i < 4611686018427387904) : wrap64 ((i : Int) + 1) = ((i + 1 : Nat) : Int) := by
  rw [w64 (by omega) (by omega)]
  rfl
theorem rd_nat (l : List Int) (i : Nat) (h : i < l.length) : rd l (i : Int) = l[i] := by
  unfold rd
  rw [Int.toNat_natCast, List.getD_eq_getElem?_getD, List.getElem?_eq_getElem h]
  rfl
theorem wf_i64 {x : Int} (h : (Lit.int .i64 x).wf = true) : -9223372036854775808 ≤ x ∧ x ≤ 9223372036854775807 := by
  simp only [Lit.wf, Bool.and_eq_true, decide_eq_true_eq] at h
  exact h
theorem ev_succ {α : Type} {g : Nat → Option α} {r : α} (h : Ev (fun k => g (k + 1)) r) : Ev g r := Ev.step (fun _ => rfl) h
theorem neg_no (n : Nat) : ¬ (1 + (n : Int) < 0) := by omega
theorem ev_if {α : Type} {c : Prop} [Decidable c] {g f : Nat → Option α} {r : α} (h : c) (k : Ev g r) : Ev (fun n => if c then g n else f n) r := Ev.congr (fun _ => if_pos h) k
theorem ev_else {α : Type} {c : Prop} [Decidable c] {g f : Nat → Option α} {r : α} (h : ¬ c) (k : Ev f r) : Ev (fun n => if c then g n else f n) r := Ev.congr (fun _ => if_neg h) k

theorem spec_l1In_eq (x lo hi : Int) : spec_l1In.f x lo hi = some (decide (lo ≤ x ∧ x ≤ hi)) := by
  unfold spec_l1In.f
  by_cases c : x ≥ lo
  · rw [if_pos c]
    congr 1
    simp only [c, true_and]
  · rw [if_neg c]
    congr 1
    exact (decide_eq_false (fun h => c h.1)).symm

theorem impl_within_eq (x lo hi : Int) : impl_within.f x lo hi = some (decide (lo ≤ x ∧ x ≤ hi)) := by
  unfold impl_within.f
  by_cases c : x ≥ lo
  · rw [if_pos c]
    congr 1
    simp only [c, true_and]
  · rw [if_neg c]
    congr 1
    exact (decide_eq_false (fun h => c h.1)).symm

def rOk (m d r : Int) : Bool := decide (0 ≤ m ∧ m ≤ 2000) && (decide (1 ≤ d ∧ d ≤ 200) && (decide (r = 0) || decide (2 ≤ r ∧ r ≤ 60)))
theorem rOk_is {m d r : Int} (h : rOk m d r = true) : (0 ≤ m ∧ m ≤ 2000) ∧ (1 ≤ d ∧ d ≤ 200) ∧ (r = 0 ∨ 2 ≤ r ∧ r ≤ 60) := by
  simp only [rOk, Bool.and_eq_true, Bool.or_eq_true, decide_eq_true_eq] at h
  exact h
theorem spec_rdGood_eq (m d r : Int) : spec_rdGood.f m d r = some (rOk m d r) := by
  simp only [spec_rdGood.f, spec_l1In_eq, Option.bind_some, rOk]
  by_cases a : 0 ≤ m ∧ m ≤ 2000
  · by_cases b : 1 ≤ d ∧ d ≤ 200
    · by_cases c : r = 0
      · simp [a, b, c]
      · simp [a, b, c]
    · simp [a, b]
  · simp [a]
/-- On how many of so many days something is read. -/
def nread (r day : Int) : Int := day - (if r > 0 then day / r else 0)
theorem nread_bd {m d r : Int} (h : rOk m d r = true) (day : Int) (hd : 0 ≤ day) : 0 ≤ nread r day ∧ nread r day ≤ day ∧ day ≤ 2 * nread r day := by
  have hr := (rOk_is h).2.2
  unfold nread
  by_cases c : r > 0
  · rw [if_pos c]
    have h1 := Int.ediv_nonneg hd (show 0 ≤ r by omega)
    have h2 := Int.ediv_mul_le day (show r ≠ 0 by omega)
    have h3 := Int.mul_le_mul_of_nonneg_left (show (2 : Int) ≤ r by omega) h1
    omega
  · rw [if_neg c]
    omega
/-- The last page behind so many days. -/
def aft (m d r day : Int) : Int := m + d * nread r day
theorem aft_bd {m d r : Int} (h : rOk m d r = true) (day : Int) (hd : 0 ≤ day ∧ day ≤ 10000) : m + nread r day ≤ aft m d r day ∧ aft m d r day ≤ 2002000 ∧ 0 ≤ d * nread r day ∧ d * nread r day ≤ 2000000 := by
  obtain ⟨h1, h2, h3⟩ := rOk_is h
  have h4 := nread_bd h day hd.1
  have h5 : 1 * nread r day ≤ d * nread r day := Int.mul_le_mul_of_nonneg_right h2.1 h4.1
  have h6 : d * nread r day ≤ 200 * 10000 := Int.mul_le_mul h2.2 (by omega) h4.1 (by omega)
  unfold aft
  omega
theorem spec_rdFree_eq {m d r : Int} (h : rOk m d r = true) (day : Int) (hd : 0 ≤ day ∧ day ≤ 10000) : spec_rdFree.f m d r day = some (aft m d r day) := by
  have h1 := rOk_is h
  have h2 := aft_bd h day hd
  have h3 := nread_bd h day hd.1
  unfold aft at h2
  simp only [spec_rdFree.f]
  unfold aft
  unfold nread at h2 h3 ⊢
  by_cases c : r > 0
  · rw [if_pos c] at h2 h3 ⊢
    rw [if_pos c, if_neg (by omega), Int.tdiv_eq_ediv_of_nonneg hd.1, w64 (x := day / r) (by omega) (by omega), w64 (x := day - day / r) (by omega) (by omega), Int.mul_comm (day - day / r) d, w64 (x := d * (day - day / r)) (by omega) (by omega), w64 (by omega) (by omega)]
  · rw [if_neg c] at h2 h3 ⊢
    rw [if_neg c]
    rw [Int.sub_zero] at h2 h3 ⊢
    rw [Int.mul_comm day d, w64 (x := d * day) (by omega) (by omega), w64 (by omega) (by omega)]

theorem impl_after_eq {m d r : Int} (h : rOk m d r = true) (day : Int) (hd : 0 ≤ day ∧ day ≤ 10000) : impl_Reader_after.f m d r day = some (aft m d r day) := by
  have h1 := rOk_is h
  have h2 := aft_bd h day hd
  have h3 := nread_bd h day hd.1
  unfold aft at h2
  simp only [impl_Reader_after.f]
  unfold aft
  unfold nread at h2 h3 ⊢
  by_cases c : r > 0
  · rw [if_pos c] at h2 h3 ⊢
    rw [if_pos c, if_neg (by omega), Int.tdiv_eq_ediv_of_nonneg hd.1, w64 (x := day / r) (by omega) (by omega), w64 (x := day - day / r) (by omega) (by omega), w64 (x := d * (day - day / r)) (by omega) (by omega), w64 (by omega) (by omega)]
  · rw [if_neg c] at h2 h3 ⊢
    rw [if_neg c]
    rw [Int.sub_zero] at h2 h3 ⊢
    rw [w64 (x := d * day) (by omega) (by omega), w64 (by omega) (by omega)]

theorem ends {m d r : Int} (h : rOk m d r = true) (page : Int) (hp : page ≤ 2000) : ∀ (t : Nat) (day : Int), day + t = 4000 → 0 ≤ day → ∃ e, Ev (fun k => spec_rdEnd.l0 k page day m d r) e ∧ Ev (fun k => impl_Reader_until.l0 k page day m d r) e ∧ 0 ≤ e ∧ e ≤ 4000 ∧ page ≤ aft m d r e ∧ ∀ j, day ≤ j → j < e → aft m d r j < page := by
  have hm := rOk_is h
  have stop : ∀ day : Int, 0 ≤ day → day ≤ 4000 → ¬ aft m d r day < page → ∃ e, Ev (fun k => spec_rdEnd.l0 k page day m d r) e ∧ Ev (fun k => impl_Reader_until.l0 k page day m d r) e ∧ 0 ≤ e ∧ e ≤ 4000 ∧ page ≤ aft m d r e ∧ ∀ j, day ≤ j → j < e → aft m d r j < page := by
    intro day h0 h1 hc
    refine ⟨day, ev_succ ?_, ev_succ ?_, h0, h1, by omega, fun j a b => by omega⟩
    · simp only [spec_rdEnd.l0, spec_rdFree_eq h day (by omega), Option.bind_some]
      refine ev_else hc ?_
      exact Ev.now _
    · simp only [impl_Reader_until.l0, impl_after_eq h day (by omega), Option.bind_some]
      refine ev_else hc ?_
      exact Ev.now _
  intro t
  induction t with
  | zero =>
    intro day hd h0
    have h1 := nread_bd h day h0
    have h2 := aft_bd h day (by omega)
    exact stop day h0 (by omega) (by omega)
  | succ t ih =>
    intro day hd h0
    by_cases c : aft m d r day < page
    · obtain ⟨e, e1, e2, e3, e4, e5, e6⟩ := ih (day + 1) (by omega) (by omega)
      refine ⟨e, ev_succ ?_, ev_succ ?_, e3, e4, e5, fun j a b => ?_⟩
      · simp only [spec_rdEnd.l0, spec_rdFree_eq h day (by omega), Option.bind_some]
        refine ev_if c ?_
        rw [w64 (by omega) (by omega)]
        exact e1
      · simp only [impl_Reader_until.l0, impl_after_eq h day (by omega), Option.bind_some]
        refine ev_if c ?_
        rw [w64 (by omega) (by omega)]
        exact e2
      · by_cases f : j = day
        · rw [f]
          exact c
        · exact e6 j (by omega) b
    · exact stop day h0 (by omega) c
theorem both_end {m d r : Int} (h : rOk m d r = true) (page : Int) (hp : page ≤ 2000) : ∃ e, Ev (fun k => spec_rdEnd.f k page m d r) e ∧ Ev (fun k => impl_Reader_until.f k m d r page) e ∧ 0 ≤ e ∧ e ≤ 4000 ∧ page ≤ aft m d r e ∧ ∀ j, 0 ≤ j → j < e → aft m d r j < page := ends h page hp 4000 0 (by omega) (by omega)

theorem good_one (m d r : Int) : impl_areReaders.f [⟨m, d, r⟩] = some (rOk m d r) := by
  simp only [impl_areReaders.f, List.all_cons, List.all_nil, Bool.and_true]
  rfl
theorem good_two (m d r m' d' r' : Int) : impl_areReaders.f [⟨m, d, r⟩, ⟨m', d', r'⟩] = some (rOk m d r && rOk m' d' r') := by
  simp only [impl_areReaders.f, List.all_cons, List.all_nil, Bool.and_true]
  rfl

theorem same (m d r p : Int) (wm : (Lit.int .i64 m).wf = true) (wd : (Lit.int .i64 d).wf = true) (wr : (Lit.int .i64 r).wf = true) (wp : (Lit.int .i64 p).wf = true) : ∃ e, Ev (fun k => spec_DayOfPage.f k m d r p) e ∧ Ev (fun k => impl_DayOfPage.f k m d r p) e := by
  simp only [spec_DayOfPage.f, impl_DayOfPage.f, spec_rdGood_eq, good_one, spec_l1In_eq, impl_within_eq, Option.bind_some]
  by_cases a : rOk m d r = true
  · have h := rOk_is a
    rw [w64 (x := m + 1) (by omega) (by omega)]
    by_cases b : m + 1 ≤ p ∧ p ≤ 2000
    · obtain ⟨e, e1, e2, _⟩ := both_end a p b.2
      refine ⟨(e, true), ?_, ?_⟩
      · simp only [a, b, and_self, decide_true, if_true]
        exact ev_map e1 rfl
      · simp only [a, b, and_self, decide_true, if_true]
        exact ev_map e2 rfl
    · refine ⟨(0, false), ?_, ?_⟩
      all_goals
        simp only [a, b, if_true, decide_false, Bool.false_eq_true, if_false]
        exact Ev.now _
  · refine ⟨(0, false), ?_, ?_⟩
    all_goals
      simp only [a, Bool.false_eq_true, if_false]
      exact Ev.now _
theorem FnExactDayOfPage : ∀ (m : Int) (d : Int) (r : Int) (p : Int), (Lit.int .i64 m).wf = true → (Lit.int .i64 d).wf = true → (Lit.int .i64 r).wf = true → (Lit.int .i64 p).wf = true → ∃ k, laws_FnExactDayOfPage.f k m d r p = some true := by
  intro m d r p wm wd wr wp
  refine Ev.rounds (r := true) ?_
  obtain ⟨r, h1, h2⟩ := same m d r p wm wd wr wp
  simp only [laws_FnExactDayOfPage.f, laws_toReader.f, Option.bind_some]
  repeat (first
    | exact Ev.now _
    | (dsimp only)
    | (with_reducible refine Ev.bind h1 ?_)
    | (with_reducible refine Ev.bind h2 ?_)
    | (simp only [decide_true, if_true, bne_self_eq_false, Bool.false_eq_true, if_false, neg_no]))

end Go.Proofs.Ytdnknmodffigdaa.Pure
