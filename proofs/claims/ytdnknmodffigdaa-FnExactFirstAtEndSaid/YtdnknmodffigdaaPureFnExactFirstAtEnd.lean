/- The plain law behind FnExactFirstAtEnd, in lists and numbers alone: the program's and the reference's first reader at the end are one. No condition beyond the printed bounds. -/
import Derived.Test.YtdnknmodffigdaaXFnExactFirstAtEndx3
set_option linter.unusedVariables false
set_option linter.unusedSimpArgs false
namespace Go.Proofs.Ytdnknmodffigdaa.Pure
open Go.RowKit Go.Proofs.Ytdnknmodffigdaa.XFnExactFirstAtEnd Go.Proofs.YtdnknmodffigdaaW.PrintWords Go.Proofs.YtdnknmodffigdaaW.PrintLast Go.Proofs.YtdnknmodffigdaaW.PrintMore
/-! ### Small words: rounds, reads, sums without a wrap. -/
theorem ev_some {α β : Type} {g : Option α} {f : Nat → α → Option β} {a : α} {r : β} (h : g = some a) (k : Ev (fun n => f n a) r) : Ev (fun n => g.bind (f n)) r := by
  subst h
  exact k
theorem ev_ret {α : Type} {r s : α} (h : r = s) : Ev (fun _ => some r) s := by
  subst h
  exact Ev.now r
theorem ev_map {α β : Type} {g : Nat → Option α} {f : α → β} {a : α} {r : β} (h : Ev g a) (e : f a = r) : Ev (fun n => (g n).bind fun t => some (f t)) r := Ev.bind h (ev_ret e)
theorem ev_eq {α : Type} {g f : Nat → Option α} {r : α} (h : g = f) (k : Ev f r) : Ev g r := by
  rw [h]
  exact k
theorem w64 {x : Int} (h0 : -9223372036854775808 ≤ x) (h1 : x ≤ 9223372036854775807) : wrap64 x = x := by
  unfold wrap64
  omega
theorem w64s {i : Nat} (h : i < 4611686018427387904) : wrap64 ((i : Int) + 1) = ((i + 1 : Nat) : Int) := by
  rw [w64 (by omega) (by omega)]
  rfl
theorem rd_nat (l : List Int) (i : Nat) (h : i < l.length) : rd l (i : Int) = l[i] := by
  unfold rd
  rw [Int.toNat_natCast, List.getD_eq_getElem?_getD, List.getElem?_eq_getElem h]
  rfl
theorem wf_i64 {x : Int} (h : (Lit.int .i64 x).wf = true) : -9223372036854775808 ≤ x ∧ x ≤ 9223372036854775807 := by
  simp only [Lit.wf, Bool.and_eq_true, decide_eq_true_eq] at h
  exact h
theorem ev_succ {α : Type} {g : Nat → Option α} {r : α} (h : Ev (fun k => g (k + 1)) r) : Ev g r := Ev.step (fun _ => rfl) h
theorem neg_no (n : Nat) : ¬ (1 + (n : Int) < 0) := by omega
theorem ev_if {α : Type} {c : Prop} [Decidable c] {g f : Nat → Option α} {r : α} (h : c) (k : Ev g r) : Ev (fun n => if c then g n else f n) r := Ev.congr (fun _ => if_pos h) k
theorem ev_else {α : Type} {c : Prop} [Decidable c] {g f : Nat → Option α} {r : α} (h : ¬ c) (k : Ev f r) : Ev (fun n => if c then g n else f n) r := Ev.congr (fun _ => if_neg h) k

theorem set_app {α : Type} (a b : List α) (x y : α) (n : Nat) (h : n = a.length) : (a ++ x :: b).set n y = a ++ y :: b := by
  subst h
  simp

theorem spec_l1In_eq (x lo hi : Int) : spec_l1In.f x lo hi = some (decide (lo ≤ x ∧ x ≤ hi)) := by
  unfold spec_l1In.f
  by_cases c : x ≥ lo
  · rw [if_pos c]
    congr 1
    simp only [c, true_and]
  · rw [if_neg c]
    congr 1
    exact (decide_eq_false (fun h => c h.1)).symm

theorem impl_within_eq (x lo hi : Int) : impl_within.f x lo hi = some (decide (lo ≤ x ∧ x ≤ hi)) := by
  unfold impl_within.f
  by_cases c : x ≥ lo
  · rw [if_pos c]
    congr 1
    simp only [c, true_and]
  · rw [if_neg c]
    congr 1
    exact (decide_eq_false (fun h => c h.1)).symm

def rOk (m d r : Int) : Bool := decide (0 ≤ m ∧ m ≤ 2000) && (decide (1 ≤ d ∧ d ≤ 200) && (decide (r = 0) || decide (2 ≤ r ∧ r ≤ 60)))
theorem rOk_is {m d r : Int} (h : rOk m d r = true) : (0 ≤ m ∧ m ≤ 2000) ∧ (1 ≤ d ∧ d ≤ 200) ∧ (r = 0 ∨ 2 ≤ r ∧ r ≤ 60) := by
  simp only [rOk, Bool.and_eq_true, Bool.or_eq_true, decide_eq_true_eq] at h
  exact h
theorem spec_rdGood_eq (m d r : Int) : spec_rdGood.f m d r = some (rOk m d r) := by
  simp only [spec_rdGood.f, spec_l1In_eq, Option.bind_some, rOk]
  by_cases a : 0 ≤ m ∧ m ≤ 2000
  · by_cases b : 1 ≤ d ∧ d ≤ 200
    · by_cases c : r = 0
      · simp [a, b, c]
      · simp [a, b, c]
    · simp [a, b]
  · simp [a]
/-- On how many of so many days something is read. -/
def nread (r day : Int) : Int := day - (if r > 0 then day / r else 0)
theorem nread_bd {m d r : Int} (h : rOk m d r = true) (day : Int) (hd : 0 ≤ day) : 0 ≤ nread r day ∧ nread r day ≤ day ∧ day ≤ 2 * nread r day := by
  have hr := (rOk_is h).2.2
  unfold nread
  by_cases c : r > 0
  · rw [if_pos c]
    have h1 := Int.ediv_nonneg hd (show 0 ≤ r by omega)
    have h2 := Int.ediv_mul_le day (show r ≠ 0 by omega)
    have h3 := Int.mul_le_mul_of_nonneg_left (show (2 : Int) ≤ r by omega) h1
    omega
  · rw [if_neg c]
    omega
/-- The last page behind so many days. -/
def aft (m d r day : Int) : Int := m + d * nread r day
theorem aft_bd {m d r : Int} (h : rOk m d r = true) (day : Int) (hd : 0 ≤ day ∧ day ≤ 10000) : m + nread r day ≤ aft m d r day ∧ aft m d r day ≤ 2002000 ∧ 0 ≤ d * nread r day ∧ d * nread r day ≤ 2000000 := by
  obtain ⟨h1, h2, h3⟩ := rOk_is h
  have h4 := nread_bd h day hd.1
  have h5 : 1 * nread r day ≤ d * nread r day := Int.mul_le_mul_of_nonneg_right h2.1 h4.1
  have h6 : d * nread r day ≤ 200 * 10000 := Int.mul_le_mul h2.2 (by omega) h4.1 (by omega)
  unfold aft
  omega
theorem spec_rdFree_eq {m d r : Int} (h : rOk m d r = true) (day : Int) (hd : 0 ≤ day ∧ day ≤ 10000) : spec_rdFree.f m d r day = some (aft m d r day) := by
  have h1 := rOk_is h
  have h2 := aft_bd h day hd
  have h3 := nread_bd h day hd.1
  unfold aft at h2
  simp only [spec_rdFree.f]
  unfold aft
  unfold nread at h2 h3 ⊢
  by_cases c : r > 0
  · rw [if_pos c] at h2 h3 ⊢
    rw [if_pos c, if_neg (by omega), Int.tdiv_eq_ediv_of_nonneg hd.1, w64 (x := day / r) (by omega) (by omega), w64 (x := day - day / r) (by omega) (by omega), Int.mul_comm (day - day / r) d, w64 (x := d * (day - day / r)) (by omega) (by omega), w64 (by omega) (by omega)]
  · rw [if_neg c] at h2 h3 ⊢
    rw [if_neg c]
    rw [Int.sub_zero] at h2 h3 ⊢
    rw [Int.mul_comm day d, w64 (x := d * day) (by omega) (by omega), w64 (by omega) (by omega)]

theorem spec_bpBook_eq (p : Int) : spec_bpBook.f p = some (decide (1 ≤ p ∧ p ≤ 2000)) := by
  simp only [spec_bpBook.f, spec_l1In_eq, Option.bind_some]

def rBook (p m d r : Int) : Bool := decide (1 ≤ p ∧ p ≤ 2000) && (rOk m d r && decide (m ≤ p))
theorem rBook_is {p m d r : Int} (h : rBook p m d r = true) : (1 ≤ p ∧ p ≤ 2000) ∧ rOk m d r = true ∧ m ≤ p := by
  simp only [rBook, Bool.and_eq_true, decide_eq_true_eq] at h
  exact h
theorem spec_rdBook_eq (p m d r : Int) : spec_rdBook.f p m d r = some (rBook p m d r) := by
  simp only [spec_rdBook.f, spec_bpBook_eq, spec_rdGood_eq, Option.bind_some, rBook]
  by_cases a : 1 ≤ p ∧ p ≤ 2000
  · by_cases b : rOk m d r = true
    · simp [a, b]
    · simp [a, b]
  · simp [a]

/-- The law's own readers, as the reference's. -/
def rdrs (l : List S23) : List S26 := l.map fun x => ⟨x.f0, x.f1, x.f2⟩
theorem rdrs_len (l : List S23) : (rdrs l).length = l.length := by simp [rdrs]
theorem rd23_nat (l : List S23) (i : Nat) (h : i < l.length) : rd_T23 l (i : Int) = l[i] := by
  unfold rd_T23
  rw [Int.toNat_natCast, List.getD_eq_getElem?_getD, List.getElem?_eq_getElem h]
  rfl
theorem rd26_nat (l : List S26) (i : Nat) (h : i < l.length) : rd_T26 l (i : Int) = l[i] := by
  unfold rd_T26
  rw [Int.toNat_natCast, List.getD_eq_getElem?_getD, List.getElem?_eq_getElem h]
  rfl
theorem laws_szReaderS_ok (l : List S23) (h : l.length ≤ 1048576) : laws_szReaderS.f l 1048576 = some (1048576 - (l.length : Int)) := by
  simp only [laws_szReaderS.f]
  rw [w64 (by omega) (by omega), if_neg (by omega)]
theorem laws_szReaderS_no (l : List S23) (h : ¬ l.length ≤ 1048576) (hm : l.length ≤ maxLen) : laws_szReaderS.f l 1048576 = some (-1) := by
  unfold maxLen at hm
  simp only [laws_szReaderS.f]
  rw [w64 (by omega) (by omega), if_pos (by omega)]
theorem laws_toReaderS_ev (l : List S23) (hl : l.length ≤ 1048576) : Ev (fun k => laws_toReaderS.f k l) (rdrs l) := by
  have key : ∀ (d i : Nat), i + d = l.length → Ev (fun k => laws_toReaderS.l0 k l ((rdrs l).take i ++ List.replicate d z26) (i : Int)) (rdrs l) := by
    intro d
    induction d with
    | zero =>
      intro i h
      refine ev_succ ?_
      simp only [laws_toReaderS.l0]
      refine ev_else (by omega) ?_
      refine ev_ret ?_
      rw [List.take_of_length_le (by rw [rdrs_len]; omega)]
      simp
    | succ d ih =>
      intro i h
      have hi' : i < l.length := by omega
      have hi2 : i < (rdrs l).length := by rw [rdrs_len]; exact hi'
      refine Ev.step (f := fun k => laws_toReaderS.l0 k l ((rdrs l).take (i + 1) ++ List.replicate d z26) ((i + 1 : Nat) : Int)) (fun k => ?_) (ih (i + 1) (by omega))
      simp only [laws_toReaderS.l0, laws_toReader.f, Option.bind_some]
      rw [if_pos (by omega), if_pos (by omega), if_pos (by simp [rdrs_len]; omega), rd23_nat l i hi', w64s (by omega), Int.toNat_natCast, List.replicate_succ, set_app _ _ _ _ _ (by simp [rdrs_len]; omega), List.take_succ_eq_append_getElem hi2]
      simp only [List.append_assoc, List.cons_append, List.nil_append]
      simp [rdrs]
  refine ev_eq (f := fun k => laws_toReaderS.l0 k l ((rdrs l).take 0 ++ List.replicate l.length z26) ((0 : Nat) : Int)) ?_ (key l.length 0 (by omega))
  funext k
  simp only [laws_toReaderS.f]
  rw [if_pos (by omega), if_pos (by omega)]
  simp
theorem laws_eqReaderS_ev (a : List S26) (hl : a.length ≤ 4611686018427387903) : Ev (fun k => laws_eqReaderS.f k a a) true := by
  have key : ∀ (d i : Nat), i + d = a.length → Ev (fun k => laws_eqReaderS.l0 k a a (i : Int)) true := by
    intro d
    induction d with
    | zero =>
      intro i h
      refine ev_succ ?_
      simp only [laws_eqReaderS.l0]
      refine ev_else (by omega) ?_
      exact Ev.now _
    | succ d ih =>
      intro i h
      refine Ev.step (f := fun k => laws_eqReaderS.l0 k a a ((i + 1 : Nat) : Int)) (fun k => ?_) (ih (i + 1) (by omega))
      simp only [laws_eqReaderS.l0, laws_eqReader.f, if_true, Option.bind_some]
      rw [if_pos (by omega), if_pos (by omega), if_pos (by omega), w64s (by omega)]
  refine ev_eq (f := fun k => laws_eqReaderS.l0 k a a ((0 : Nat) : Int)) ?_ (key a.length 0 (by omega))
  funext k
  simp only [laws_eqReaderS.f, if_true]
  rfl
theorem spec_rdAll_ev (p : Int) (l : List S26) (hl : l.length ≤ 1048576) : Ev (fun k => spec_rdAll.f k p l) (decide (1 ≤ (l.length : Int) ∧ (l.length : Int) ≤ 6) && l.all fun x => rBook p x.f0 x.f1 x.f2) := by
  have key : ∀ (d i : Nat), i + d = l.length → Ev (fun k => spec_rdAll.l0 k p l (l.length : Int) (i : Int)) ((l.drop i).all fun x => rBook p x.f0 x.f1 x.f2) := by
    intro d
    induction d with
    | zero =>
      intro i h
      rw [List.drop_eq_nil_of_le (by omega)]
      refine ev_succ ?_
      simp only [spec_rdAll.l0]
      refine ev_else (by omega) ?_
      exact Ev.now _
    | succ d ih =>
      intro i h
      have h1 : i < l.length := by omega
      rw [List.drop_eq_getElem_cons h1]
      refine Ev.step (f := fun k => if rBook p l[i].f0 l[i].f1 l[i].f2 = true then spec_rdAll.l0 k p l (l.length : Int) ((i + 1 : Nat) : Int) else some false) (fun k => by simp only [spec_rdAll.l0]; rw [if_pos (by omega), if_pos (by omega), if_pos (by omega), rd26_nat l i h1, w64s (by omega), spec_rdBook_eq]; rfl) ?_
      by_cases c : rBook p l[i].f0 l[i].f1 l[i].f2 = true
      · simp only [c, if_true, List.all_cons, Bool.true_and]
        exact ih (i + 1) (by omega)
      · simp only [c, Bool.false_eq_true, if_false, List.all_cons, Bool.false_and]
        exact Ev.now _
  simp only [spec_rdAll.f]
  refine ev_some (spec_l1In_eq _ _ _) ?_
  by_cases a : 1 ≤ (l.length : Int) ∧ (l.length : Int) ≤ 6
  · simp only [a, and_self, decide_true, if_true, Bool.true_and]
    exact key l.length 0 (by omega)
  · simp only [a, decide_false, Bool.false_and, Bool.false_eq_true, if_false]
    exact Ev.now _
theorem goodR_eq (x : S26) : impl_goodR x = rOk x.f0 x.f1 x.f2 := rfl
theorem impl_isGroup_eq (l : List S26) : impl_isGroup.f l = some (decide (1 ≤ (l.length : Int) ∧ (l.length : Int) ≤ 6)) := by
  simp only [impl_isGroup.f, impl_within_eq, Option.bind_some]

theorem impl_after_eq {m d r : Int} (h : rOk m d r = true) (day : Int) (hd : 0 ≤ day ∧ day ≤ 10000) : impl_Reader_after.f m d r day = some (aft m d r day) := by
  have h1 := rOk_is h
  have h2 := aft_bd h day hd
  have h3 := nread_bd h day hd.1
  unfold aft at h2
  simp only [impl_Reader_after.f]
  unfold aft
  unfold nread at h2 h3 ⊢
  by_cases c : r > 0
  · rw [if_pos c] at h2 h3 ⊢
    rw [if_pos c, if_neg (by omega), Int.tdiv_eq_ediv_of_nonneg hd.1, w64 (x := day / r) (by omega) (by omega), w64 (x := day - day / r) (by omega) (by omega), w64 (x := d * (day - day / r)) (by omega) (by omega), w64 (by omega) (by omega)]
  · rw [if_neg c] at h2 h3 ⊢
    rw [if_neg c]
    rw [Int.sub_zero] at h2 h3 ⊢
    rw [w64 (x := d * day) (by omega) (by omega), w64 (by omega) (by omega)]

theorem ends {m d r : Int} (h : rOk m d r = true) (page : Int) (hp : page ≤ 2000) : ∀ (t : Nat) (day : Int), day + t = 4000 → 0 ≤ day → ∃ e, Ev (fun k => spec_rdEnd.l0 k page day m d r) e ∧ Ev (fun k => impl_Reader_until.l0 k page day m d r) e ∧ 0 ≤ e ∧ e ≤ 4000 ∧ page ≤ aft m d r e ∧ ∀ j, day ≤ j → j < e → aft m d r j < page := by
  have hm := rOk_is h
  have stop : ∀ day : Int, 0 ≤ day → day ≤ 4000 → ¬ aft m d r day < page → ∃ e, Ev (fun k => spec_rdEnd.l0 k page day m d r) e ∧ Ev (fun k => impl_Reader_until.l0 k page day m d r) e ∧ 0 ≤ e ∧ e ≤ 4000 ∧ page ≤ aft m d r e ∧ ∀ j, day ≤ j → j < e → aft m d r j < page := by
    intro day h0 h1 hc
    refine ⟨day, ev_succ ?_, ev_succ ?_, h0, h1, by omega, fun j a b => by omega⟩
    · simp only [spec_rdEnd.l0, spec_rdFree_eq h day (by omega), Option.bind_some]
      refine ev_else hc ?_
      exact Ev.now _
    · simp only [impl_Reader_until.l0, impl_after_eq h day (by omega), Option.bind_some]
      refine ev_else hc ?_
      exact Ev.now _
  intro t
  induction t with
  | zero =>
    intro day hd h0
    have h1 := nread_bd h day h0
    have h2 := aft_bd h day (by omega)
    exact stop day h0 (by omega) (by omega)
  | succ t ih =>
    intro day hd h0
    by_cases c : aft m d r day < page
    · obtain ⟨e, e1, e2, e3, e4, e5, e6⟩ := ih (day + 1) (by omega) (by omega)
      refine ⟨e, ev_succ ?_, ev_succ ?_, e3, e4, e5, fun j a b => ?_⟩
      · simp only [spec_rdEnd.l0, spec_rdFree_eq h day (by omega), Option.bind_some]
        refine ev_if c ?_
        rw [w64 (by omega) (by omega)]
        exact e1
      · simp only [impl_Reader_until.l0, impl_after_eq h day (by omega), Option.bind_some]
        refine ev_if c ?_
        rw [w64 (by omega) (by omega)]
        exact e2
      · by_cases f : j = day
        · rw [f]
          exact c
        · exact e6 j (by omega) b
    · exact stop day h0 (by omega) c
theorem both_end {m d r : Int} (h : rOk m d r = true) (page : Int) (hp : page ≤ 2000) : ∃ e, Ev (fun k => spec_rdEnd.f k page m d r) e ∧ Ev (fun k => impl_Reader_until.f k m d r page) e ∧ 0 ≤ e ∧ e ≤ 4000 ∧ page ≤ aft m d r e ∧ ∀ j, 0 ≤ j → j < e → aft m d r j < page := ends h page hp 4000 0 (by omega) (by omega)

theorem book_all (p : Int) (l : List S26) : (impl_areReadersOf.f p l).bind (fun b => some (b && decide (1 ≤ (l.length : Int) ∧ (l.length : Int) ≤ 6))) = some (decide (1 ≤ (l.length : Int) ∧ (l.length : Int) ≤ 6) && l.all fun x => rBook p x.f0 x.f1 x.f2) := by
  simp only [impl_areReadersOf.f, Option.bind_some]
  congr 1
  by_cases a : 1 ≤ (l.length : Int) ∧ (l.length : Int) ≤ 6
  · simp only [a, and_self, decide_true, Bool.and_true, Bool.true_and]
    cases l with
    | nil => simp at a
    | cons y t =>
      rw [Bool.eq_iff_iff]
      simp only [Bool.and_eq_true, List.all_eq_true, decide_eq_true_eq, goodR_eq, rBook]
      constructor
      · rintro ⟨h1, h2, h3⟩ x hx
        exact ⟨h1, h2 x hx, h3 x hx⟩
      · intro h
        exact ⟨(h y List.mem_cons_self).1, fun x hx => (h x hx).2.1, fun x hx => (h x hx).2.2⟩
  · simp only [a, decide_false, Bool.and_false, Bool.false_and]
theorem firsts (p : Int) (l : List S26) (hp : p ≤ 2000) (h6 : l.length ≤ 6) (hn : 1 ≤ l.length) (ha : ∀ x ∈ l, rOk x.f0 x.f1 x.f2 = true) : ∃ e, Ev (fun k => spec_FirstAtEnd.l0 k p 0 (-1) l (l.length : Int) 0) e ∧ Ev (fun k => impl_FirstAtEnd.l0 k p l 0 l (l.length : Int) 0) e := by
  have key : ∀ (d i b : Nat) (eb : Int), i + d = l.length → (hb : b < l.length) → 0 ≤ eb → Ev (fun k => impl_Reader_until.f k l[b].f0 l[b].f1 l[b].f2 p) eb → ∃ e, Ev (fun k => spec_FirstAtEnd.l0 k p (b : Int) eb l (l.length : Int) (i : Int)) e ∧ Ev (fun k => impl_FirstAtEnd.l0 k p l (b : Int) l (l.length : Int) (i : Int)) e := by
    intro d
    induction d with
    | zero =>
      intro i b eb h hb h0 hE
      refine ⟨((b : Int), eb, true), ev_succ ?_, ev_succ ?_⟩
      · simp only [spec_FirstAtEnd.l0]
        refine ev_else (by omega) ?_
        exact Ev.now _
      · simp only [impl_FirstAtEnd.l0, rd26_nat l b hb]
        refine ev_else (by omega) (ev_if (by omega) (ev_if (by omega) ?_))
        exact ev_map hE rfl
    | succ d ih =>
      intro i b eb h hb h0 hE
      have hi : i < l.length := by omega
      have hx := ha l[i] (List.getElem_mem hi)
      obtain ⟨ei, e1, e2, e3, _⟩ := both_end hx p hp
      by_cases c : ei < eb
      · obtain ⟨e, g1, g2⟩ := ih (i + 1) i ei (by omega) hi e3 e2
        refine ⟨e, ev_succ ?_, ev_succ ?_⟩
        · simp only [spec_FirstAtEnd.l0, rd26_nat l i hi]
          refine ev_if (by omega) (ev_if (by omega) (ev_if (by omega) ?_))
          refine Ev.bind e1 ?_
          refine ev_else (by omega) (ev_if c ?_)
          rw [w64s (by omega)]
          exact g1
        · simp only [impl_FirstAtEnd.l0, rd26_nat l i hi, rd26_nat l b hb]
          refine ev_if (by omega) (ev_if (by omega) (ev_if (by omega) ?_))
          refine Ev.bind e2 ?_
          refine ev_if (by omega) (ev_if (by omega) ?_)
          refine Ev.bind hE ?_
          refine ev_if c ?_
          rw [w64s (by omega)]
          exact g2
      · obtain ⟨e, g1, g2⟩ := ih (i + 1) b eb (by omega) hb h0 hE
        refine ⟨e, ev_succ ?_, ev_succ ?_⟩
        · simp only [spec_FirstAtEnd.l0, rd26_nat l i hi]
          refine ev_if (by omega) (ev_if (by omega) (ev_if (by omega) ?_))
          refine Ev.bind e1 ?_
          refine ev_else (by omega) (ev_else c ?_)
          rw [w64s (by omega)]
          exact g1
        · simp only [impl_FirstAtEnd.l0, rd26_nat l i hi, rd26_nat l b hb]
          refine ev_if (by omega) (ev_if (by omega) (ev_if (by omega) ?_))
          refine Ev.bind e2 ?_
          refine ev_if (by omega) (ev_if (by omega) ?_)
          refine Ev.bind hE ?_
          refine ev_else c ?_
          rw [w64s (by omega)]
          exact g2
  have hz : 0 < l.length := by omega
  have hx := ha l[0] (List.getElem_mem hz)
  obtain ⟨ei, e1, e2, e3, _⟩ := both_end hx p hp
  obtain ⟨e, g1, g2⟩ := key (l.length - 1) 1 0 ei (by omega) hz e3 e2
  refine ⟨e, ev_succ ?_, ev_succ ?_⟩
  · simp only [spec_FirstAtEnd.l0, show rd_T26 l 0 = l[0] from rd26_nat l 0 hz]
    refine ev_if (by omega) (ev_if (by omega) (ev_if (by omega) ?_))
    refine Ev.bind e1 ?_
    refine ev_if (by omega) ?_
    rw [w64 (by omega) (by omega)]
    exact g1
  · simp only [impl_FirstAtEnd.l0, show rd_T26 l 0 = l[0] from rd26_nat l 0 hz]
    refine ev_if (by omega) (ev_if (by omega) (ev_if (by omega) ?_))
    refine Ev.bind e2 ?_
    refine ev_if (by omega) (ev_if (by omega) ?_)
    refine Ev.bind e2 ?_
    refine ev_else (by omega) ?_
    rw [w64 (by omega) (by omega)]
    exact g2
theorem same (p : Int) (l : List S26) (hl : l.length ≤ 1048576) : ∃ e, Ev (fun k => spec_FirstAtEnd.f k p l) e ∧ Ev (fun k => impl_FirstAtEnd.f k p l) e := by
  have i0 : Ev (fun k => impl_FirstAtEnd.j0 k p l true) (0, 0, false) := by
    refine ev_succ ?_
    simp only [impl_FirstAtEnd.j0, if_true]
    exact Ev.now _
  have hs := spec_rdAll_ev p l hl
  have hb := book_all p l
  obtain ⟨b, hib⟩ : ∃ b, impl_areReadersOf.f p l = some b := ⟨_, rfl⟩
  rw [hib, Option.bind_some] at hb
  injection hb with hb
  rw [← hb] at hs
  by_cases c : (b && decide (1 ≤ (l.length : Int) ∧ (l.length : Int) ≤ 6)) = true
  · obtain ⟨c1, c2⟩ := (Bool.and_eq_true _ _).mp c
    have c3 := of_decide_eq_true c2
    rw [c] at hb hs
    have hall : ∀ x ∈ l, rBook p x.f0 x.f1 x.f2 = true := by
      have h2 := hb.symm
      rw [Bool.and_eq_true, List.all_eq_true] at h2
      exact h2.2
    have hp : p ≤ 2000 := by
      have hz : 0 < l.length := by omega
      exact (rBook_is (hall l[0] (List.getElem_mem hz))).1.2
    obtain ⟨e, e1, e2⟩ := firsts p l hp (by omega) (by omega) (fun x hx => (rBook_is (hall x hx)).2.1)
    refine ⟨e, ?_, ?_⟩
    · simp only [spec_FirstAtEnd.f]
      refine Ev.bind hs ?_
      simp only [if_true]
      exact e1
    · simp only [impl_FirstAtEnd.f, hib, Option.bind_some, c1, if_true, impl_isGroup_eq, c2, Bool.not_true]
      refine ev_succ ?_
      simp only [impl_FirstAtEnd.j0, Bool.false_eq_true, if_false]
      exact e2
  · refine ⟨(0, 0, false), ?_, ?_⟩
    · simp only [spec_FirstAtEnd.f]
      refine Ev.bind hs ?_
      simp only [c, Bool.false_eq_true, if_false]
      exact Ev.now _
    · simp only [impl_FirstAtEnd.f, hib, Option.bind_some, impl_isGroup_eq]
      cases b with
      | true =>
        rw [Bool.true_and] at c
        simp only [if_true, c, Bool.not_false]
        exact i0
      | false =>
        simp only [Bool.false_eq_true, if_false]
        exact i0
theorem FnExactFirstAtEnd : ∀ (a0 : Int) (l1 : List S23), (Lit.int .i64 a0).wf = true → l1.length ≤ maxLen → (∀ x ∈ l1, (Lit.int .i64 x.f0).wf = true ∧ (Lit.int .i64 x.f1).wf = true ∧ (Lit.int .i64 x.f2).wf = true) → ∃ k, laws_FnExactFirstAtEnd.f k a0 l1 = some true := by
  intro a0 l1 wa hm hw
  refine Ev.rounds (r := true) ?_
  by_cases c : l1.length ≤ 1048576
  · obtain ⟨r, h1, h2⟩ := same a0 (rdrs l1) (by rw [rdrs_len]; exact c)
    have ht := laws_toReaderS_ev l1 c
    have he := laws_eqReaderS_ev (rdrs l1) (by rw [rdrs_len]; omega)
    simp only [laws_FnExactFirstAtEnd.f, laws_szReaderS_ok l1 c, Option.bind_some]
    refine ev_else (by omega) ?_
    repeat (first
      | exact Ev.now _
      | (dsimp only)
      | (with_reducible refine Ev.bind h1 ?_)
      | (with_reducible refine Ev.bind h2 ?_)
      | (with_reducible refine Ev.bind ht ?_)
      | (with_reducible refine Ev.bind he ?_)
      | (simp only [decide_true, if_true, bne_self_eq_false, Bool.false_eq_true, if_false, neg_no])
      | (refine ev_succ ?_; simp only [laws_FnExactFirstAtEnd.j0]))
  · simp only [laws_FnExactFirstAtEnd.f, laws_szReaderS_no l1 c hm, Option.bind_some]
    exact ev_if (by omega) (Ev.now _)

end Go.Proofs.Ytdnknmodffigdaa.Pure
