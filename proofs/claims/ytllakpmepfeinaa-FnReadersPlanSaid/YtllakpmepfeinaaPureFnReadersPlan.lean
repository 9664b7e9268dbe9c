/- The plain law behind FnReadersPlan, in lists and numbers alone: the laws of the plans. No condition beyond the printed bounds. -/
import Derived.Test.YtllakpmepfeinaaXFnReadersPlanx9
set_option linter.unusedVariables false
set_option linter.unusedSimpArgs false
namespace Go.Proofs.Ytllakpmepfeinaa.Pure
open Go.RowKit Go.Proofs.Ytllakpmepfeinaa.XFnReadersPlan Go.Proofs.YtllakpmepfeinaaW.PrintWords Go.Proofs.YtllakpmepfeinaaW.PrintLast Go.Proofs.YtllakpmepfeinaaW.PrintMore
/-! ### Small words: rounds, reads, sums without a wrap. -/
theorem ev_some {α β : Type} {g : Option α} {f : Nat → α → Option β} {a : α} {r : β} (h : g = some a) (k : Ev (fun n => f n a) r) : Ev (fun n => g.bind (f n)) r := by
  subst h
  exact k
theorem ev_ret {α : Type} {r s : α} (h : r = s) : Ev (fun _ => some r) s := by
  subst h
  exact Ev.now r
theorem ev_map {α β : Type} {g : Nat → Option α} {f : α → β} {a : α} {r : β} (h : Ev g a) (e : f a = r) : Ev (fun n => (g n).bind fun t => some (f t)) r := Ev.bind h (ev_ret e)
theorem ev_eq {α : Type} {g f : Nat → Option α} {r : α} (h : g = f) (k : Ev f r) : Ev g r := by
  rw [h]
  exact k
theorem w64 {x : Int} (h0 : -9223372036854775808 ≤ x) (h1 : x ≤ 9223372036854775807) : wrap64 x = x := by
  unfold wrap64
  omega
theorem w64s {i : Nat} (h : i < 4611686018427387904) : wrap64 ((i : Int) + 1) = ((i + 1 : Nat) : Int) := by
  rw [w64 (by omega) (by omega)]
  rfl
theorem rd_nat (l : List Int) (i : Nat) (h : i < l.length) : rd l (i : Int) = l[i] := by
  unfold rd
  rw [Int.toNat_natCast, List.getD_eq_getElem?_getD, List.getElem?_eq_getElem h]
  rfl
theorem wf_i64 {x : Int} (h : (Lit.int .i64 x).wf = true) : -9223372036854775808 ≤ x ∧ x ≤ 9223372036854775807 := by
  simp only [Lit.wf, Bool.and_eq_true, decide_eq_true_eq] at h
  exact h
theorem ev_succ {α : Type} {g : Nat → Option α} {r : α} (h : Ev (fun k => g (k + 1)) r) : Ev g r := Ev.step (fun _ => rfl) h
theorem neg_no (n : Nat) : ¬ (1 + (n : Int) < 0) := by omega
theorem ev_if {α : Type} {c : Prop} [Decidable c] {g f : Nat → Option α} {r : α} (h : c) (k : Ev g r) : Ev (fun n => if c then g n else f n) r := Ev.congr (fun _ => if_pos h) k
theorem ev_else {α : Type} {c : Prop} [Decidable c] {g f : Nat → Option α} {r : α} (h : ¬ c) (k : Ev f r) : Ev (fun n => if c then g n else f n) r := Ev.congr (fun _ => if_neg h) k

theorem spec_l1In_eq (x lo hi : Int) : spec_l1In.f x lo hi = some (decide (lo ≤ x ∧ x ≤ hi)) := by
  unfold spec_l1In.f
  by_cases c : x ≥ lo
  · rw [if_pos c]
    congr 1
    simp only [c, true_and]
  · rw [if_neg c]
    congr 1
    exact (decide_eq_false (fun h => c h.1)).symm

theorem impl_within_eq (x lo hi : Int) : impl_within.f x lo hi = some (decide (lo ≤ x ∧ x ≤ hi)) := by
  unfold impl_within.f
  by_cases c : x ≥ lo
  · rw [if_pos c]
    congr 1
    simp only [c, true_and]
  · rw [if_neg c]
    congr 1
    exact (decide_eq_false (fun h => c h.1)).symm

theorem spec_bpBook_eq (p : Int) : spec_bpBook.f p = some (decide (1 ≤ p ∧ p ≤ 2000)) := by
  simp only [spec_bpBook.f, spec_l1In_eq, Option.bind_some]

theorem impl_isBook_eq (p : Int) : impl_isBook.f p = some (decide (1 ≤ p ∧ p ≤ 2000)) := by
  simp only [impl_isBook.f, impl_within_eq, Option.bind_some]

theorem div_is {a b q : Int} (hb : 0 < b) (h1 : q * b ≤ a) (h2 : a < (q + 1) * b) : a / b = q := by
  have h3 := Int.le_ediv_of_mul_le hb h1
  have h4 := Int.ediv_lt_of_lt_mul hb h2
  omega

/-- What is left after j days: q a day, and one more on the first r days. -/
def rest (q r D : Int) (j : Int) : Int := q * (D - j) + (if j < r then r - j else 0)
/-- What is read on day j. -/
def today (q r : Int) (j : Int) : Int := q + (if j < r then 1 else 0)
theorem rest_step (q r D j : Int) (hr : 0 ≤ r ∧ r < D) (hj : 0 ≤ j ∧ j < D) : rest q r D (j + 1) = rest q r D j - today q r j := by
  unfold rest today
  have e : q * (D - j) = q * (D - (j + 1)) + q := by
    rw [show D - j = (D - (j + 1)) + 1 by omega, Int.mul_add, Int.mul_one]
  rw [e]
  by_cases c : j < r
  · rw [if_pos c, if_pos c]
    by_cases d : j + 1 < r
    · rw [if_pos d]
      omega
    · rw [if_neg d]
      omega
  · rw [if_neg c, if_neg c, if_neg (by omega)]
    omega
theorem rest_div (q r D j : Int) (hr : 0 ≤ r ∧ r < D) (hj : 0 ≤ j ∧ j < D) : (rest q r D j + (D - j) - 1) / (D - j) = today q r j := by
  refine div_is (by omega) ?_ ?_
  · unfold rest today
    by_cases c : j < r
    · rw [if_pos c, if_pos c, Int.add_mul, Int.one_mul]
      omega
    · rw [if_neg c, if_neg c, Int.add_zero, Int.add_zero]
      omega
  · unfold rest today
    by_cases c : j < r
    · rw [if_pos c, if_pos c, Int.add_mul, Int.add_mul, Int.one_mul]
      omega
    · rw [if_neg c, if_neg c, Int.add_zero, Int.add_zero, Int.add_mul, Int.one_mul]
      omega
theorem rest_bd (q r D j B : Int) (hq : 0 ≤ q) (hr : 0 ≤ r ∧ r < D) (hj : 0 ≤ j ∧ j ≤ D) (hB : q * D + r ≤ B) : 0 ≤ rest q r D j ∧ rest q r D j ≤ B := by
  unfold rest
  have h1 : 0 ≤ q * (D - j) := Int.mul_nonneg hq (by omega)
  have h2 : q * (D - j) ≤ q * D := Int.mul_le_mul_of_nonneg_left (by omega) hq
  split <;> omega
theorem today_le (q r D j : Int) (hr : 0 ≤ r ∧ r < D) (hj : 0 ≤ j ∧ j < D) (hq : 0 ≤ q) : 0 ≤ today q r j ∧ today q r j ≤ rest q r D j := by
  have h1 := rest_step q r D j hr hj
  unfold rest at h1 ⊢
  have h2 : 0 ≤ q * (D - (j + 1)) := Int.mul_nonneg hq (by omega)
  constructor
  · unfold today
    split <;> omega
  · split at h1 <;> omega

def partOk (n d : Int) : Bool := decide (1 ≤ n ∧ n < d ∧ d ≤ 200)
theorem spec_rdPart_eq (n d : Int) : spec_rdPart.f n d = some (partOk n d) := by
  simp only [spec_rdPart.f, spec_l1In_eq, Option.bind_some, partOk]
  by_cases a : 2 ≤ d ∧ d ≤ 200
  · rw [w64 (by omega) (by omega)]
    rw [decide_eq_true a]
    simp only [if_true]
    exact congrArg some (decide_eq_decide.2 (by omega))
  · simp only [a, decide_false, Bool.false_eq_true, if_false]
    congr 1
    exact (decide_eq_false (fun h => a ⟨by omega, h.2.2⟩)).symm
theorem impl_isPart_eq (n d : Int) : impl_isPart.f n d = some (partOk n d) := by
  simp only [impl_isPart.f, impl_within_eq, Option.bind_some, partOk]
  by_cases a : 1 ≤ n ∧ n ≤ 200
  · rw [w64 (by omega) (by omega)]
    rw [decide_eq_true a]
    simp only [if_true]
    exact congrArg some (decide_eq_decide.2 (by omega))
  · simp only [a, decide_false, Bool.false_eq_true, if_false]
    congr 1
    exact (decide_eq_false (fun h => a ⟨h.1, by omega⟩)).symm

theorem part_q {L n d : Int} (hL : 1 ≤ L) (hn : 1 ≤ n) (hd : n < d) : 1 ≤ (L * n + d - 1) / d ∧ (L * n + d - 1) / d ≤ L := by
  have h1 : 0 < L * n := Int.mul_pos (by omega) (by omega)
  have h2 : L * n ≤ L * d := Int.mul_le_mul_of_nonneg_left (by omega) (by omega)
  have h3 : (L + 1) * d = L * d + d := by rw [Int.add_mul, Int.one_mul]
  refine ⟨Int.le_ediv_of_mul_le (by omega) (by omega), ?_⟩
  have := Int.ediv_lt_of_lt_mul (a := L * n + d - 1) (b := L + 1) (c := d) (by omega) (by omega)
  omega
theorem part_bd {L n : Int} (hL : 0 ≤ L ∧ L ≤ 2000) (hn : 0 ≤ n ∧ n ≤ 200) : 0 ≤ L * n ∧ L * n ≤ 400000 := by
  refine ⟨Int.mul_nonneg hL.1 hn.1, ?_⟩
  have := Int.mul_le_mul hL.2 hn.2 hn.1 (by omega)
  omega

/-! ### What is drawn from bytes: some values, and no panic. -/
def isBytes (l : List Int) : Prop := (∀ x ∈ l, 0 ≤ x ∧ x ≤ 255) ∧ l.length ≤ 1048576
theorem rd_byte {l : List Int} (h : isBytes l) (i : Int) : 0 ≤ rd l i ∧ rd l i ≤ 255 := by
  unfold rd
  rw [List.getD_eq_getElem?_getD]
  cases e : l[i.toNat]? with
  | none => exact ⟨by decide, by decide⟩
  | some x => exact h.1 x (List.mem_of_getElem? e)
theorem u64_bd (x : Int) : 0 ≤ IntKind.u64.wrap x ∧ IntKind.u64.wrap x < 18446744073709551616 := by
  have e : IntKind.u64.wrap x = x % 18446744073709551616 := rfl
  rw [e]
  omega
theorem and255 (x : Int) (h0 : 0 ≤ x) (h1 : x < 18446744073709551616) : 0 ≤ Go.bits .and .u64 x 255 ∧ Go.bits .and .u64 x 255 ≤ 255 := by
  have e : Go.bits .and .u64 x 255 = x % 256 := Go.bits_mask .u64 64 (by decide) (fun n a b => by
    have e : IntKind.u64.wrap n = n % 18446744073709551616 := rfl
    rw [e]
    omega) 8 (by decide) x h0 h1
  rw [e]
  omega
theorem next_ok {l : List Int} (h : isBytes l) (a s : Int) (h0 : 0 ≤ a) (h1 : a ≤ 1000000) : ∃ x s', spec_l1Cur_next.f l a s = some (x, a + 1, s') ∧ 0 ≤ x ∧ x ≤ 255 := by
  have hb := rd_byte h a
  unfold spec_l1Cur_next.f
  have hw : wrap64 (a + 1) = a + 1 := w64 (by omega) (by omega)
  have hr : wrap64 (rd l a) = rd l a := w64 (by omega) (by omega)
  rw [hw, hr]
  have big : ∀ z : Int, 0 ≤ wrap64 (Go.bits .and .u64 (IntKind.u64.wrap z / 1099511627776) 255) ∧ wrap64 (Go.bits .and .u64 (IntKind.u64.wrap z / 1099511627776) 255) ≤ 255 := by
    intro z
    have hz := u64_bd z
    have ha := and255 (IntKind.u64.wrap z / 1099511627776) (by omega) (by omega)
    rw [w64 (by omega) (by omega)]
    exact ha
  by_cases c : a < (l.length : Int)
  · rw [if_pos c, if_pos h0]
    by_cases d : a + 1 ≤ (l.length : Int)
    · rw [if_pos d]
      exact ⟨_, _, rfl, hb⟩
    · rw [if_neg d]
      exact ⟨_, _, rfl, big _⟩
  · rw [if_neg c]
    by_cases d : a + 1 ≤ (l.length : Int)
    · rw [if_pos d]
      exact ⟨_, _, rfl, by omega⟩
    · rw [if_neg d]
      exact ⟨_, _, rfl, big _⟩
theorem pick_ok {l : List Int} (h : isBytes l) (a s n : Int) (h0 : 0 ≤ a) (h1 : a ≤ 999990) : ∃ x a' s', spec_l1Cur_pick.f l a s n = some (x, a', s') ∧ 0 ≤ x ∧ (1 ≤ n → x < n) ∧ a ≤ a' ∧ a' ≤ a + 2 := by
  unfold spec_l1Cur_pick.f
  by_cases c : n ≤ 1
  · rw [if_pos c]
    exact ⟨0, a, s, rfl, by omega, fun _ => by omega, by omega, by omega⟩
  rw [if_neg c]
  obtain ⟨x, s1, e1, x0, x1⟩ := next_ok h a s h0 (by omega)
  rw [e1, Option.bind_some]
  have md : ∀ y : Int, 0 ≤ y → 0 ≤ Int.tmod y n ∧ Int.tmod y n < n := by
    intro y hy
    rw [Int.tmod_eq_emod_of_nonneg hy]
    exact ⟨Int.emod_nonneg _ (by omega), Int.emod_lt_of_pos _ (by omega)⟩
  by_cases d : n > 200
  · rw [if_pos d]
    obtain ⟨y, s2, e2, y0, y1⟩ := next_ok h (a + 1) s1 (by omega) (by omega)
    dsimp only
    rw [e2, Option.bind_some, if_neg (by omega)]
    dsimp only
    rw [w64 (x := x * 256) (by omega) (by omega), w64 (x := x * 256 + y) (by omega) (by omega)]
    have := md (x * 256 + y) (by omega)
    exact ⟨_, _, _, rfl, this.1, fun _ => this.2, by omega, by omega⟩
  · rw [if_neg d, if_neg (by omega)]
    have := md x x0
    exact ⟨_, _, _, rfl, this.1, fun _ => this.2, by dsimp only; omega, by dsimp only; omega⟩
theorem one_ok {l : List Int} (h : isBytes l) (a s n : Int) (h0 : 0 ≤ a) (h1 : a ≤ 999990) : ∃ b a' s', spec_l1Cur_one.f l a s n = some (b, a', s') ∧ a ≤ a' ∧ a' ≤ a + 2 := by
  obtain ⟨x, a', s', e, _, _, k1, k2⟩ := pick_ok h a s n h0 h1
  unfold spec_l1Cur_one.f
  rw [e, Option.bind_some]
  exact ⟨_, _, _, rfl, k1, k2⟩
theorem among_ok {l : List Int} (h : isBytes l) (a s : Int) (t : List Int) (ht : 1 ≤ t.length) (h0 : 0 ≤ a) (h1 : a ≤ 999990) : ∃ x a' s', spec_l1Cur_among.f l a s t = some (x, a', s') ∧ a ≤ a' ∧ a' ≤ a + 2 := by
  obtain ⟨x, a', s', e, x0, x1, k1, k2⟩ := pick_ok h a s (t.length : Int) h0 h1
  unfold spec_l1Cur_among.f
  rw [e, Option.bind_some, if_pos x0, if_pos (x1 (by omega))]
  exact ⟨_, _, _, rfl, k1, k2⟩
theorem page_ok {l : List Int} (h : isBytes l) (a s : Int) (h0 : 0 ≤ a) (h1 : a ≤ 999980) : ∃ x a' s', spec_l1Cur_page.f l a s = some (x, a', s') ∧ a ≤ a' ∧ a' ≤ a + 4 := by
  obtain ⟨x, a1, s1, e, _, _, k1, k2⟩ := pick_ok h a s 9 h0 (by omega)
  unfold spec_l1Cur_page.f
  rw [e, Option.bind_some]
  dsimp only
  split
  · obtain ⟨y, a2, s2, e2, j1, j2⟩ := among_ok h a1 s1 [(-1), 0, 1, 2, 1999, 2000, 2001, 4611686018427387904] (by simp) (by omega) (by omega)
    rw [e2, Option.bind_some]
    exact ⟨_, _, _, rfl, by dsimp only; omega, by dsimp only; omega⟩
  · split
    · obtain ⟨y, a2, s2, e2, _, _, j1, j2⟩ := pick_ok h a1 s1 250 (by omega) (by omega)
      rw [e2, Option.bind_some]
      exact ⟨_, _, _, rfl, by dsimp only; omega, by dsimp only; omega⟩
    · obtain ⟨y, a2, s2, e2, _, _, j1, j2⟩ := pick_ok h a1 s1 130 (by omega) (by omega)
      rw [e2, Option.bind_some]
      exact ⟨_, _, _, rfl, by dsimp only; omega, by dsimp only; omega⟩
theorem bookOf_ok {l : List Int} (h : isBytes l) (a s : Int) (h0 : 0 ≤ a) (h1 : a ≤ 999970) : ∃ x a' s', spec_l1Cur_bookOf.f l a s = some (x, a', s') ∧ a ≤ a' ∧ a' ≤ a + 6 := by
  obtain ⟨b, a1, s1, e, k1, k2⟩ := one_ok h a s 4 h0 (by omega)
  unfold spec_l1Cur_bookOf.f
  rw [e, Option.bind_some]
  dsimp only
  split
  · obtain ⟨y, a2, s2, e2, j1, j2⟩ := page_ok h a1 s1 (by omega) (by omega)
    rw [e2, Option.bind_some]
    exact ⟨_, _, _, rfl, by dsimp only; omega, by dsimp only; omega⟩
  · obtain ⟨y, a2, s2, e2, _, _, j1, j2⟩ := pick_ok h a1 s1 250 (by omega) (by omega)
    rw [e2, Option.bind_some]
    exact ⟨_, _, _, rfl, by dsimp only; omega, by dsimp only; omega⟩
theorem day_ok {l : List Int} (h : isBytes l) (a s : Int) (h0 : 0 ≤ a) (h1 : a ≤ 999970) : ∃ x a' s', spec_l1Cur_day.f l a s = some (x, a', s') ∧ a ≤ a' ∧ a' ≤ a + 4 := by
  obtain ⟨b, a1, s1, e, k1, k2⟩ := one_ok h a s 8 h0 (by omega)
  unfold spec_l1Cur_day.f
  rw [e, Option.bind_some]
  dsimp only
  split
  · obtain ⟨y, a2, s2, e2, j1, j2⟩ := among_ok h a1 s1 [(-1), 0, 1, 3000, 3001, 4611686018427387904] (by simp) (by omega) (by omega)
    rw [e2, Option.bind_some]
    exact ⟨_, _, _, rfl, by dsimp only; omega, by dsimp only; omega⟩
  · obtain ⟨y, a2, s2, e2, _, _, j1, j2⟩ := pick_ok h a1 s1 40 (by omega) (by omega)
    rw [e2, Option.bind_some]
    exact ⟨_, _, _, rfl, by dsimp only; omega, by dsimp only; omega⟩
theorem part_ok {l : List Int} (h : isBytes l) (a s : Int) (h0 : 0 ≤ a) (h1 : a ≤ 999970) : ∃ x y a' s', spec_l1Cur_part.f l a s = some (x, y, a', s') ∧ a ≤ a' ∧ a' ≤ a + 6 := by
  obtain ⟨b, a1, s1, e, k1, k2⟩ := one_ok h a s 10 h0 (by omega)
  unfold spec_l1Cur_part.f
  rw [e, Option.bind_some]
  dsimp only
  split
  · obtain ⟨y, a2, s2, e2, j1, j2⟩ := among_ok h a1 s1 [(-1), 0, 1, 2, 199] (by simp) (by omega) (by omega)
    rw [e2, Option.bind_some]
    dsimp only
    obtain ⟨z, a3, s3, e3, i1, i2⟩ := among_ok h a2 s2 [0, 1, 2, 200, 201] (by simp) (by omega) (by omega)
    rw [e3, Option.bind_some]
    exact ⟨_, _, _, _, rfl, by dsimp only; omega, by dsimp only; omega⟩
  · obtain ⟨y, a2, s2, e2, _, _, j1, j2⟩ := pick_ok h a1 s1 8 (by omega) (by omega)
    rw [e2, Option.bind_some]
    dsimp only
    obtain ⟨z, a3, s3, e3, _, _, i1, i2⟩ := pick_ok h a2 s2 (wrap64 (wrap64 (2 + y) - 1)) (by omega) (by omega)
    rw [e3, Option.bind_some]
    exact ⟨_, _, _, _, rfl, by dsimp only; omega, by dsimp only; omega⟩
theorem drawEven_ok {l : List Int} (h : isBytes l) : ∃ x y z, spec_DrawEvenPlan.f l = some (x, y, z) := by
  unfold spec_DrawEvenPlan.f spec_DrawDailyFor.f
  obtain ⟨x, a1, s1, e1, i1, j1⟩ := bookOf_ok h 0 0 (by omega) (by omega)
  obtain ⟨y, a2, s2, e2, _, _, i2, j2⟩ := pick_ok h a1 s1 60 (by omega) (by omega)
  obtain ⟨z, a3, s3, e3, _, _, i3, j3⟩ := pick_ok h a2 s2 9 (by omega) (by omega)
  obtain ⟨w, a4, s4, e4, i4, j4⟩ := day_ok h a3 s3 (by omega) (by omega)
  simp only [e1, e2, e3, e4, Option.bind_some]
  exact ⟨_, _, _, rfl⟩
theorem drawRising_ok {l : List Int} (h : isBytes l) : ∃ x y z, spec_DrawRisingPlan.f l = some (x, y, z) := by
  unfold spec_DrawRisingPlan.f
  obtain ⟨x, a1, s1, e1, i1, j1⟩ := bookOf_ok h 0 0 (by omega) (by omega)
  obtain ⟨y, a2, s2, e2, i2, j2⟩ := among_ok h a1 s1 [1, 2, 5, 10, 20, 200, 201, 0] (by simp) (by omega) (by omega)
  obtain ⟨z, a3, s3, e3, i3, j3⟩ := among_ok h a2 s2 [0, 1, 2, 5, 200, 201, (-1)] (by simp) (by omega) (by omega)
  simp only [e1, e2, e3, Option.bind_some]
  exact ⟨_, _, _, rfl⟩
theorem drawFirst_ok {l : List Int} (h : isBytes l) : ∃ x y z, spec_DrawFirstForRising.f l = some (x, y, z) := by
  unfold spec_DrawFirstForRising.f
  obtain ⟨x, a1, s1, e1, i1, j1⟩ := bookOf_ok h 0 0 (by omega) (by omega)
  obtain ⟨y, a2, s2, e2, i2, j2⟩ := day_ok h a1 s1 (by omega) (by omega)
  obtain ⟨z, a3, s3, e3, i3, j3⟩ := among_ok h a2 s2 [0, 1, 2, 5, 200, 201, (-1)] (by simp) (by omega) (by omega)
  simp only [e1, e2, e3, Option.bind_some]
  exact ⟨_, _, _, rfl⟩
theorem drawPart_ok {l : List Int} (h : isBytes l) : ∃ x y z, spec_DrawPartPlan.f l = some (x, y, z) := by
  unfold spec_DrawPartPlan.f
  obtain ⟨x, y, a1, s1, e1, i1, j1⟩ := part_ok h 0 0 (by omega) (by omega)
  obtain ⟨z, a2, s2, e2, i2, j2⟩ := bookOf_ok h a1 s1 (by omega) (by omega)
  simp only [e1, e2, Option.bind_some]
  exact ⟨_, _, _, rfl⟩
/-- What AfterParts' draw gives: rows that aren't many. -/
theorem drawAfter_ok {l : List Int} (h : isBytes l) : ∃ e : Int × List (List Int) × List Int, Ev (fun k => spec_DrawAfterParts.f k l) e ∧ e.2.1.length ≤ 1000 ∧ e.2.2.length ≤ 1000 := by
  have last : ∀ (a s : Int) (p : List (List Int)) (m : List Int), 0 ≤ a → a ≤ 999900 → p.length ≤ 900 → m.length ≤ 900 → ∃ e : Int × List (List Int) × List Int, (spec_l1Cur_among.f l a s [0, 1, 2, 3, 4, 6, 8, 10, 12, 30, 2000, 2001, (-1)]).bind (fun bt => some (bt.1, p, m)) = some e ∧ e.2.1.length ≤ 1000 ∧ e.2.2.length ≤ 1000 := by
    intro a s p m h0 h1 hp hm
    obtain ⟨x, a', s', e, _, _⟩ := among_ok h a s [0, 1, 2, 3, 4, 6, 8, 10, 12, 30, 2000, 2001, (-1)] (by simp) h0 (by omega)
    rw [e, Option.bind_some]
    exact ⟨_, rfl, by dsimp only; omega, by dsimp only; omega⟩
  have fill : ∀ (d : Nat) (a s : Int) (p : List (List Int)) (m : List Int), 0 ≤ a → a + 10 * (d : Int) ≤ 999000 → p.length + d ≥ 8 → p.length + d ≤ 800 → m.length + d ≤ 800 → ∃ e : Int × List (List Int) × List Int, Ev (fun k => spec_DrawAfterParts.l1 k p m l a s) e ∧ e.2.1.length ≤ 1000 ∧ e.2.2.length ≤ 1000 := by
    intro d
    induction d with
    | zero =>
      intro a s p m h0 h1 h8 hp hm
      obtain ⟨x, a1, s1, e1, x0, x1, i1, j1⟩ := pick_ok h a s 2 h0 (by omega)
      have x1 := x1 (by omega)
      obtain ⟨e, f1, f2⟩ := last a1 s1 p m (by omega) (by omega) (by omega) (by omega)
      refine ⟨e, ev_succ ?_, f2⟩
      simp only [spec_DrawAfterParts.l1]
      refine ev_some e1 ?_
      dsimp only
      rw [w64 (x := 6 + x) (by omega) (by omega)]
      refine ev_else (by omega) ?_
      rw [f1]
      exact Ev.now _
    | succ d ih =>
      intro a s p m h0 h1 h8 hp hm
      obtain ⟨x, a1, s1, e1, x0, x1, i1, j1⟩ := pick_ok h a s 2 h0 (by omega)
      have x1 := x1 (by omega)
      by_cases c : (p.length : Int) < 6 + x
      · obtain ⟨e, f1, f2⟩ := ih a1 s1 (p ++ [[1, 2]]) (m ++ [0]) (by omega) (by omega) (by rw [List.length_append, List.length_singleton]; omega) (by rw [List.length_append, List.length_singleton]; omega) (by rw [List.length_append, List.length_singleton]; omega)
        refine ⟨e, ev_succ ?_, f2⟩
        simp only [spec_DrawAfterParts.l1]
        refine ev_some e1 ?_
        dsimp only
        rw [w64 (x := 6 + x) (by omega) (by omega)]
        refine ev_if c ?_
        refine ev_if (by omega) ?_
        refine ev_if (by omega) ?_
        exact f1
      · obtain ⟨e, f1, f2⟩ := last a1 s1 p m (by omega) (by omega) (by omega) (by omega)
        refine ⟨e, ev_succ ?_, f2⟩
        simp only [spec_DrawAfterParts.l1]
        refine ev_some e1 ?_
        dsimp only
        rw [w64 (x := 6 + x) (by omega) (by omega)]
        refine ev_else c ?_
        rw [f1]
        exact Ev.now _
  have many : ∀ (d : Nat) (a s : Int) (p : List (List Int)) (m : List Int), 0 ≤ a → a + 20 * (d : Int) ≤ 900000 → p.length + d ≤ 100 → m.length + d ≤ 100 → ∃ e : Int × List (List Int) × List Int, Ev (fun k => spec_DrawAfterParts.l0 k p m (d : Int) l a s) e ∧ e.2.1.length ≤ 1000 ∧ e.2.2.length ≤ 1000 := by
    intro d
    induction d with
    | zero =>
      intro a s p m h0 h1 hp hm
      obtain ⟨x, a1, s1, e1, _, _, i1, j1⟩ := pick_ok h a s 14 h0 (by omega)
      by_cases c0 : x = 0
      · obtain ⟨e, f1, f2⟩ := last a1 s1 p (m ++ [1]) (by omega) (by omega) (by omega) (by rw [List.length_append, List.length_singleton]; omega)
        refine ⟨e, ev_succ ?_, f2⟩
        simp only [spec_DrawAfterParts.l0]
        refine ev_else (by omega) ?_
        refine ev_some e1 ?_
        refine ev_if c0 ?_
        refine ev_if (by omega) ?_
        rw [f1]
        exact Ev.now _
      by_cases c1 : x = 1
      · obtain ⟨e, f1, f2⟩ := last a1 s1 (p ++ [[1]]) (m ++ [1]) (by omega) (by omega) (by rw [List.length_append, List.length_singleton]; omega) (by rw [List.length_append, List.length_singleton]; omega)
        refine ⟨e, ev_succ ?_, f2⟩
        simp only [spec_DrawAfterParts.l0]
        refine ev_else (by omega) ?_
        refine ev_some e1 ?_
        refine ev_else c0 ?_
        refine ev_if c1 ?_
        refine ev_if (by omega) ?_
        refine ev_if (by omega) ?_
        rw [f1]
        exact Ev.now _
      by_cases c2 : x = 2
      · obtain ⟨e, f1, f2⟩ := fill 8 a1 s1 p m (by omega) (by omega) (by omega) (by omega) (by omega)
        refine ⟨e, ev_succ ?_, f2⟩
        simp only [spec_DrawAfterParts.l0]
        refine ev_else (by omega) ?_
        refine ev_some e1 ?_
        refine ev_else c0 ?_
        refine ev_else c1 ?_
        refine ev_if c2 ?_
        exact f1
      · obtain ⟨e, f1, f2⟩ := last a1 s1 p m (by omega) (by omega) (by omega) (by omega)
        refine ⟨e, ev_succ ?_, f2⟩
        simp only [spec_DrawAfterParts.l0]
        refine ev_else (by omega) ?_
        refine ev_some e1 ?_
        refine ev_else c0 ?_
        refine ev_else c1 ?_
        refine ev_else c2 ?_
        rw [f1]
        exact Ev.now _
    | succ d ih =>
      intro a s p m h0 h1 hp hm
      obtain ⟨x, y, a1, s1, e1, i1, j1⟩ := part_ok h a s h0 (by omega)
      obtain ⟨b, a2, s2, e2, i2, j2⟩ := one_ok h a1 s1 2 (by omega) (by omega)
      obtain ⟨z, a3, s3, e3, _, _, i3, j3⟩ := pick_ok h a2 s2 4 (by omega) (by omega)
      have hd : wrap64 (((d + 1 : Nat) : Int) - 1) = (d : Int) := by
        rw [w64 (by omega) (by omega)]
        omega
      by_cases c : b = true
      · obtain ⟨e, f1, f2⟩ := ih a3 s3 (p ++ [[1, 2]]) (m ++ [z]) (by omega) (by omega) (by rw [List.length_append, List.length_singleton]; omega) (by rw [List.length_append, List.length_singleton]; omega)
        refine ⟨e, ev_succ ?_, f2⟩
        simp only [spec_DrawAfterParts.l0]
        refine ev_if (by omega) ?_
        refine ev_some e1 ?_
        refine ev_some e2 ?_
        refine ev_if c ?_
        refine ev_if (by omega) ?_
        refine ev_some e3 ?_
        refine ev_if (by omega) ?_
        rw [hd]
        exact f1
      · obtain ⟨e, f1, f2⟩ := ih a3 s3 (p ++ [[x, y]]) (m ++ [z]) (by omega) (by omega) (by rw [List.length_append, List.length_singleton]; omega) (by rw [List.length_append, List.length_singleton]; omega)
        refine ⟨e, ev_succ ?_, f2⟩
        simp only [spec_DrawAfterParts.l0]
        refine ev_if (by omega) ?_
        refine ev_some e1 ?_
        refine ev_some e2 ?_
        refine ev_else c ?_
        refine ev_if (by omega) ?_
        refine ev_some e3 ?_
        refine ev_if (by omega) ?_
        rw [hd]
        exact f1
  obtain ⟨x, a1, s1, e1, x0, x1, i1, j1⟩ := pick_ok h 0 0 4 (by omega) (by omega)
  have x1 := x1 (by omega)
  obtain ⟨n, rfl⟩ := Int.eq_ofNat_of_zero_le x0
  obtain ⟨e, f1, f2⟩ := many n a1 s1 [] [] (by omega) (by omega) (by simp; omega) (by simp; omega)
  refine ⟨e, ?_, f2⟩
  simp only [spec_DrawAfterParts.f]
  exact ev_some e1 f1

/-! ### The plans' lists, and what they sum up to. -/
def sm : List Int → Int
  | [] => 0
  | x :: t => x + sm t
theorem sm_app : ∀ (x y : List Int), sm (x ++ y) = sm x + sm y
  | [], y => by simp [sm]
  | a :: x, y => by rw [List.cons_append, sm, sm, sm_app x y]; omega
theorem sm_take (l : List Int) (i : Nat) (h : i < l.length) : sm (l.take (i + 1)) = sm (l.take i) + l[i] := by
  rw [List.take_add_one, List.getElem?_eq_getElem h, sm_app]
  simp [sm]
theorem sm_bd (l : List Int) (h : ∀ x ∈ l, 0 ≤ x ∧ x ≤ 2000) : 0 ≤ sm l ∧ sm l ≤ 2000 * (l.length : Int) := by
  induction l with
  | nil => simp [sm]
  | cons a t ih =>
    have h1 := ih (fun x hx => h x (List.mem_cons_of_mem _ hx))
    have h2 := h a (List.mem_cons_self)
    rw [sm, List.length_cons]
    omega
theorem xSum_ev (l : List Int) (h : ∀ x ∈ l, 0 ≤ x ∧ x ≤ 2000) (hl : l.length ≤ 100000) : Ev (fun k => laws_xSum.f k l) (sm l) := by
  have key : ∀ (d i : Nat), i + d = l.length → Ev (fun k => laws_xSum.l0 k (sm (l.take i)) l (l.length : Int) (i : Int)) (sm l) := by
    intro d
    induction d with
    | zero =>
      intro i e
      refine ev_succ ?_
      simp only [laws_xSum.l0]
      refine ev_else (by omega) ?_
      rw [List.take_of_length_le (by omega)]
      exact Ev.now _
    | succ d ih =>
      intro i e
      have hi : i < l.length := by omega
      have b1 := sm_bd (l.take i) (fun x hx => h x (List.mem_of_mem_take hx))
      have b2 := h l[i] (List.getElem_mem hi)
      rw [List.length_take] at b1
      refine ev_succ ?_
      simp only [laws_xSum.l0]
      refine ev_if (by omega) ?_
      refine ev_if (by omega) ?_
      refine ev_if (by omega) ?_
      rw [rd_nat l i hi, w64s (show i < 4611686018427387904 by omega), w64 (by omega) (by omega), ← sm_take l i hi]
      exact ih (i + 1) (by omega)
  exact key l.length 0 (by omega)
theorem xSame_ev (l : List Int) (hl : l.length ≤ 100000) : Ev (fun k => laws_xSame.f k l l) true := by
  have key : ∀ (d i : Nat), i + d = l.length → Ev (fun k => laws_xSame.l0 k l l (l.length : Int) (i : Int)) true := by
    intro d
    induction d with
    | zero =>
      intro i e
      refine ev_succ ?_
      simp only [laws_xSame.l0]
      refine ev_else (by omega) ?_
      exact Ev.now _
    | succ d ih =>
      intro i e
      refine ev_succ ?_
      simp only [laws_xSame.l0]
      refine ev_if (by omega) ?_
      refine ev_if (by omega) ?_
      refine ev_if (by omega) ?_
      refine ev_if (by omega) ?_
      refine ev_if trivial ?_
      rw [w64s (show i < 4611686018427387904 by omega)]
      exact ih (i + 1) (by omega)
  simp only [laws_xSame.f, if_true]
  exact key l.length 0 (by omega)
/-- The even plan's days from day j on. -/
def evL (q r : Int) (j d : Nat) : List Int := (List.range d).map fun i => today q r ((j + i : Nat) : Int)
theorem evL_len (q r : Int) (j d : Nat) : (evL q r j d).length = d := by simp [evL]
theorem evL_get (q r : Int) (j d i : Nat) (h : i < d) : (evL q r j d)[i]'(by rw [evL_len]; exact h) = today q r ((j + i : Nat) : Int) := by simp [evL]
theorem evL_cons (q r : Int) (j d : Nat) : evL q r j (d + 1) = today q r (j : Int) :: evL q r (j + 1) d := by
  unfold evL
  rw [List.range_succ_eq_map, List.map_cons, List.map_map]
  congr 1
  apply List.map_congr_left
  intro i _
  show today q r ((j + (i + 1) : Nat) : Int) = today q r ((j + 1 + i : Nat) : Int)
  rw [show j + (i + 1) = j + 1 + i by omega]
theorem evL_sum (q r : Int) (D : Nat) (hr : 0 ≤ r ∧ r < (D : Int)) : ∀ (d j : Nat), j + d = D → sm (evL q r j d) = rest q r D j := by
  intro d
  induction d with
  | zero =>
    intro j h
    have : (j : Int) = (D : Int) := by omega
    show (0 : Int) = _
    unfold rest
    rw [if_neg (by omega), this, Int.sub_self, Int.mul_zero]
    rfl
  | succ d ih =>
    intro j h
    rw [evL_cons, sm, ih (j + 1) (by omega), show ((j + 1 : Nat) : Int) = (j : Int) + 1 by omega, rest_step q r D j hr (by omega)]
    omega
theorem even_walk (L q r : Int) (D : Nat) (hD : D ≤ 3000) (hL : 0 ≤ L ∧ L ≤ 2000) (hq : Int.tdiv L (D : Int) = q) (hr : Int.tmod L (D : Int) = r) (hq0 : 0 ≤ q) (hr0 : 0 ≤ r ∧ r < (D : Int)) (he : q * (D : Int) + r = L) :
    ∀ (d j : Nat) (out : List Int), j + d = D → out.length ≤ j → Ev (fun k => spec_EvenPlan.l0 k ((D : Int) - (j : Int)) out (rest q r D j)) (out ++ evL q r j d, true) ∧ Ev (fun k => impl_EvenPlan.l0 k (D : Int) out L (D : Int) (j : Int)) (out ++ evL q r j d, true) := by
  intro d
  induction d with
  | zero =>
    intro j out h ho
    refine ⟨ev_succ ?_, ev_succ ?_⟩
    · simp only [spec_EvenPlan.l0]
      refine ev_else (by omega) ?_
      exact ev_ret (by simp [evL])
    · simp only [impl_EvenPlan.l0]
      refine ev_else (by omega) ?_
      exact ev_ret (by simp [evL])
  | succ d ih =>
    intro j out h ho
    have hj : 0 ≤ (j : Int) ∧ (j : Int) < (D : Int) := by omega
    have b1 := rest_bd q r D j 2000 hq0 hr0 (by omega) (by omega)
    have b2 := today_le q r D j hr0 hj hq0
    have hdv := rest_div q r D j hr0 hj
    have htd : Int.tdiv (rest q r D j + ((D : Int) - (j : Int)) - 1) ((D : Int) - (j : Int)) = today q r j := by
      rw [Int.tdiv_eq_ediv_of_nonneg (by omega), hdv]
    obtain ⟨a1, a2⟩ := ih (j + 1) (out ++ [today q r j]) (by omega) (by rw [List.length_append]; simp only [List.length_cons, List.length_nil]; omega)
    have e2 : ((j + 1 : Nat) : Int) = (j : Int) + 1 := by omega
    rw [List.append_assoc, List.singleton_append, ← evL_cons] at a1 a2
    rw [e2] at a1
    rw [rest_step q r D j hr0 hj] at a1
    refine ⟨ev_succ ?_, ev_succ ?_⟩
    · simp only [spec_EvenPlan.l0]
      refine ev_if (by omega) ?_
      refine ev_else (by omega) ?_
      refine ev_if (by omega) ?_
      rw [w64 (x := rest q r D j + ((D : Int) - (j : Int))) (by omega) (by omega), w64 (x := rest q r D j + ((D : Int) - (j : Int)) - 1) (by omega) (by omega), htd, w64 (x := today q r j) (by omega) (by omega), w64 (x := rest q r D j - today q r j) (by omega) (by omega), w64 (x := (D : Int) - (j : Int) - 1) (by omega) (by omega), show (D : Int) - (j : Int) - 1 = (D : Int) - ((j : Int) + 1) by omega]
      exact a1
    · simp only [impl_EvenPlan.l0]
      refine ev_if (by omega) ?_
      refine ev_else (by omega) ?_
      rw [hq, hr, w64s (by omega)]
      unfold today at a2 b2
      by_cases c : (j : Int) < r
      · refine ev_if c ?_
        refine ev_if (by omega) ?_
        rw [if_pos c] at a2 b2
        rw [w64 (x := q) (by omega) (by omega), w64 (x := q + 1) (by omega) (by omega)]
        exact a2
      · refine ev_else c ?_
        refine ev_if (by omega) ?_
        rw [if_neg c] at a2 b2
        rw [Int.add_zero] at a2 b2
        rw [w64 (x := q) (by omega) (by omega)]
        exact a2
/-- The arguments of the plans by days. -/
def mkOk (p m D : Int) : Bool := decide (1 ≤ p ∧ p ≤ 2000) && (decide (0 ≤ m ∧ m ≤ p) && decide (1 ≤ D ∧ D ≤ 3000))
theorem spec_rdPlan_eq (p m D : Int) : spec_rdPlan.f p m D = some (mkOk p m D) := by
  simp only [spec_rdPlan.f, spec_bpBook_eq, spec_l1In_eq, Option.bind_some, mkOk]
  by_cases a : 1 ≤ p ∧ p ≤ 2000
  · by_cases b : 0 ≤ m ∧ m ≤ p
    · simp [a, b]
    · simp [a, b]
  · simp [a]
theorem impl_isMarked_eq (p m D : Int) : impl_isMarked.f p m D = some (mkOk p m D) := by
  simp only [impl_isMarked.f, impl_isDay.f, impl_isBook_eq, impl_within_eq, Option.bind_some, mkOk]
  by_cases a : 1 ≤ p ∧ p ≤ 2000
  · by_cases b : 0 ≤ m ∧ m ≤ p
    · simp [a, b]
    · simp [a, b]
  · simp [a]
theorem mkOk_is {p m D : Int} (h : mkOk p m D = true) : (1 ≤ p ∧ p ≤ 2000) ∧ (0 ≤ m ∧ m ≤ p) ∧ (1 ≤ D ∧ D ≤ 3000) := by
  simp only [mkOk, Bool.and_eq_true, decide_eq_true_eq] at h
  exact h
/-- The even plan. -/
def evP (p m D : Int) : List Int := evL ((p - m) / D) ((p - m) % D) 0 D.toNat
theorem even_no (p m D : Int) (h : ¬ mkOk p m D = true) : Ev (fun k => spec_EvenPlan.f k p m D) ([], false) ∧ Ev (fun k => impl_EvenPlan.f k p m D) ([], false) := by
  simp only [spec_EvenPlan.f, impl_EvenPlan.f, spec_rdPlan_eq, impl_isMarked_eq, Option.bind_some, h, Bool.false_eq_true, if_false]
  exact ⟨Ev.now _, Ev.now _⟩
theorem even_yes (p m D : Int) (h : mkOk p m D = true) : Ev (fun k => spec_EvenPlan.f k p m D) (evP p m D, true) ∧ Ev (fun k => impl_EvenPlan.f k p m D) (evP p m D, true) := by
  obtain ⟨a, b, c⟩ := mkOk_is h
  simp only [spec_EvenPlan.f, impl_EvenPlan.f, spec_rdPlan_eq, impl_isMarked_eq, Option.bind_some, h, if_true]
  have eD : ((D.toNat : Nat) : Int) = D := Int.toNat_of_nonneg (by omega)
  have h1 := Int.mul_ediv_add_emod (p - m) D
  have h2 := Int.emod_nonneg (p - m) (show D ≠ 0 by omega)
  have h3 := Int.emod_lt_of_pos (p - m) (show 0 < D by omega)
  have h4 := Int.ediv_nonneg (show 0 ≤ p - m by omega) (show 0 ≤ D by omega)
  obtain ⟨a1, a2⟩ := even_walk (p - m) ((p - m) / D) ((p - m) % D) D.toNat (by omega) (by omega) (by rw [eD]; exact Int.tdiv_eq_ediv_of_nonneg (by omega)) (by rw [eD]; exact Int.tmod_eq_emod_of_nonneg (by omega)) h4 (by rw [eD]; exact ⟨h2, h3⟩) (by rw [eD, Int.mul_comm]; exact h1) D.toNat 0 [] (by omega) (by simp)
  rw [eD] at a1 a2
  have e0 : rest ((p - m) / D) ((p - m) % D) D ((0 : Nat) : Int) = p - m := by
    unfold rest
    rw [Int.mul_comm] at h1
    simp only [Int.natCast_zero, Int.sub_zero]
    split <;> omega
  rw [e0] at a1
  rw [w64 (x := p - m) (by omega) (by omega)]
  rw [List.nil_append] at a1 a2
  refine ⟨?_, ?_⟩
  · simpa [evP] using a1
  · simpa [evP] using a2
theorem evP_sum (p m D : Int) (h : mkOk p m D = true) : sm (evP p m D) = p - m := by
  obtain ⟨a, b, c⟩ := mkOk_is h
  have eD : ((D.toNat : Nat) : Int) = D := Int.toNat_of_nonneg (by omega)
  have h1 := Int.mul_ediv_add_emod (p - m) D
  have h2 := Int.emod_nonneg (p - m) (show D ≠ 0 by omega)
  have h3 := Int.emod_lt_of_pos (p - m) (show 0 < D by omega)
  unfold evP
  rw [evL_sum _ _ D.toNat (by rw [eD]; exact ⟨h2, h3⟩) D.toNat 0 (by omega), eD]
  unfold rest
  rw [Int.mul_comm] at h1
  simp only [Int.natCast_zero, Int.sub_zero]
  split <;> omega

/-- The rising plan's days. -/
def rsL (more : Int) : Nat → Int → Int → List Int
  | 0, _, _ => []
  | t + 1, L, first => if 0 < L then mn first L :: rsL more t (L - mn first L) (first + more) else []
theorem rs_nil (more : Int) (t : Nat) (L first : Int) (h : L ≤ 0) : rsL more t L first = [] := by
  cases t with
  | zero => rfl
  | succ t => rw [rsL, if_neg (by omega)]
theorem mn_bd {f L : Int} (hf : 1 ≤ f) (hL : 0 < L) : 1 ≤ mn f L ∧ mn f L ≤ L ∧ mn f L ≤ f ∧ (0 < L - mn f L → mn f L = f) := by
  unfold mn
  split <;> omega
theorem rs_len (more : Int) : ∀ (t : Nat) (L first : Int), (rsL more t L first).length ≤ t
  | 0, _, _ => Nat.le_refl 0
  | t + 1, L, first => by
    rw [rsL]
    split
    · have := rs_len more t (L - mn first L) (first + more)
      rw [List.length_cons]
      omega
    · simp
theorem rs_sum (more : Int) (hm : 0 ≤ more) : ∀ (t : Nat) (L first : Int), 0 ≤ L → L ≤ t → 1 ≤ first → sm (rsL more t L first) = L
  | 0, L, first, h0, h1, _ => by
    show (0 : Int) = L
    omega
  | t + 1, L, first, h0, h1, h2 => by
    rw [rsL]
    by_cases c : 0 < L
    · have hb := mn_bd h2 c
      rw [if_pos c, sm, rs_sum more hm t (L - mn first L) (first + more) (by omega) (by omega) (by omega)]
      omega
    · rw [if_neg c]
      show (0 : Int) = L
      omega
theorem rs_mem (more : Int) (hm : 0 ≤ more) : ∀ (t : Nat) (L first : Int), L ≤ 2000 → 1 ≤ first → ∀ x ∈ rsL more t L first, 1 ≤ x ∧ x ≤ 2000
  | 0, _, _, _, _, x, hx => by cases hx
  | t + 1, L, first, h1, h2, x, hx => by
    rw [rsL] at hx
    by_cases c : 0 < L
    · have hb := mn_bd h2 c
      rw [if_pos c] at hx
      rcases List.mem_cons.1 hx with e | e
      · rw [e]; omega
      · exact rs_mem more hm t (L - mn first L) (first + more) (by omega) (by omega) x e
    · rw [if_neg c] at hx
      cases hx
theorem rs_pos (more : Int) (t : Nat) (L first : Int) (h : 0 < L) (ht : 1 ≤ t) : 1 ≤ (rsL more t L first).length := by
  obtain ⟨t, rfl⟩ : ∃ s, t = s + 1 := ⟨t - 1, by omega⟩
  rw [rsL, if_pos h, List.length_cons]
  omega
theorem spec_l1Least_eq (a b : Int) : spec_l1Least.f a b = some (mn b a) := by
  unfold spec_l1Least.f mn
  split <;> rfl
theorem rising_walk (more : Int) (hm : 0 ≤ more ∧ more ≤ 200) : ∀ (t : Nat) (L first : Int) (out : List Int), 0 ≤ L → L ≤ t → t ≤ 2000 → 1 ≤ first → first + 200 * (t : Int) ≤ 1000000 → out.length + t ≤ 10000 →
    Ev (fun k => spec_rdRising.l0 k L first more out) (out ++ rsL more t L first) ∧ Ev (fun k => impl_rising.l0 k first more out L) (out ++ rsL more t L first) := by
  intro t
  induction t with
  | zero =>
    intro L first out h0 h1 h2 h3 h4 ho
    refine ⟨ev_succ ?_, ev_succ ?_⟩
    · simp only [spec_rdRising.l0]
      refine ev_else (by omega) ?_
      exact ev_ret (by simp [rsL])
    · simp only [impl_rising.l0]
      refine ev_else (by omega) ?_
      exact ev_ret (by simp [rsL])
  | succ t ih =>
    intro L first out h0 h1 h2 h3 h4 ho
    rw [rsL]
    by_cases c : L > 0
    · have hq : 1 ≤ mn first L ∧ mn first L ≤ L ∧ first + more + 200 * (t : Int) ≤ 1000000 := by
        have := mn_bd h3 c
        omega
      rw [if_pos c]
      obtain ⟨a1, a2⟩ := ih (L - mn first L) (first + more) (out ++ [mn first L]) (by omega) (by omega) (by omega) (by omega) hq.2.2 (by rw [List.length_append]; simp only [List.length_cons, List.length_nil]; omega)
      rw [List.append_assoc, List.singleton_append] at a1 a2
      refine ⟨ev_succ ?_, ev_succ ?_⟩
      · simp only [spec_rdRising.l0]
        refine ev_if c ?_
        refine ev_some (spec_l1Least_eq _ _) ?_
        refine ev_if (by omega) ?_
        rw [w64 (x := L - mn first L) (by omega) (by omega), w64 (x := first + more) (by omega) (by omega)]
        exact a1
      · simp only [impl_rising.l0]
        refine ev_if c ?_
        refine ev_if (by omega) ?_
        rw [w64 (x := L - mn first L) (by omega) (by omega), w64 (x := first + more) (by omega) (by omega)]
        exact a2
    · rw [if_neg c, List.append_nil]
      refine ⟨ev_succ ?_, ev_succ ?_⟩
      · simp only [spec_rdRising.l0]
        refine ev_else c ?_
        exact Ev.now _
      · simp only [impl_rising.l0]
        refine ev_else c ?_
        exact Ev.now _
/-- The rising plan. -/
def rsP (p first more : Int) : List Int := rsL more p.toNat p first
theorem rising_ev (p first more : Int) (hp : 1 ≤ p ∧ p ≤ 2000) (hf : 1 ≤ first ∧ first ≤ 200) (hm : 0 ≤ more ∧ more ≤ 200) : Ev (fun k => spec_rdRising.f k p first more) (rsP p first more) ∧ Ev (fun k => impl_rising.f k p first more) (rsP p first more) := by
  have := rising_walk more hm p.toNat p first [] (by omega) (by omega) (by omega) (by omega) (by omega) (by simp; omega)
  exact this
def rsOk (p first more : Int) : Bool := decide (1 ≤ p ∧ p ≤ 2000) && (decide (1 ≤ first ∧ first ≤ 200) && decide (0 ≤ more ∧ more ≤ 200))
theorem rsOk_is {p f m : Int} (h : rsOk p f m = true) : (1 ≤ p ∧ p ≤ 2000) ∧ (1 ≤ f ∧ f ≤ 200) ∧ (0 ≤ m ∧ m ≤ 200) := by
  simp only [rsOk, Bool.and_eq_true, decide_eq_true_eq] at h
  exact h
theorem rsOk_of {p f m : Int} (h1 : 1 ≤ p ∧ p ≤ 2000) (h2 : 1 ≤ f ∧ f ≤ 200) (h3 : 0 ≤ m ∧ m ≤ 200) : rsOk p f m = true := by
  simp only [rsOk, Bool.and_eq_true, decide_eq_true_eq]
  exact ⟨h1, h2, h3⟩
theorem rsPlan_yes (p f m : Int) (h : rsOk p f m = true) : Ev (fun k => spec_RisingPlan.f k p f m) (rsP p f m, true) ∧ Ev (fun k => impl_RisingPlan.f k p f m) (rsP p f m, true) := by
  obtain ⟨a, b, c⟩ := rsOk_is h
  obtain ⟨e1, e2⟩ := rising_ev p f m a b c
  simp only [spec_RisingPlan.f, impl_RisingPlan.f, impl_isMore.f, spec_bpBook_eq, impl_isBook_eq, spec_l1In_eq, impl_within_eq, Option.bind_some, a, b, c, and_self, decide_true, if_true]
  exact ⟨ev_map e1 rfl, ev_map e2 rfl⟩
theorem rsPlan_no (p f m : Int) (h : ¬ rsOk p f m = true) : Ev (fun k => spec_RisingPlan.f k p f m) ([], false) ∧ Ev (fun k => impl_RisingPlan.f k p f m) ([], false) := by
  simp only [spec_RisingPlan.f, impl_RisingPlan.f, impl_isMore.f, spec_bpBook_eq, impl_isBook_eq, spec_l1In_eq, impl_within_eq, Option.bind_some]
  by_cases a : 1 ≤ p ∧ p ≤ 2000
  · by_cases b : 1 ≤ f ∧ f ≤ 200
    · by_cases c : 0 ≤ m ∧ m ≤ 200
      · exact absurd (rsOk_of a b c) h
      · refine ⟨?_, ?_⟩
        all_goals
          simp only [a, b, c, and_self, decide_true, if_true, decide_false, Bool.false_eq_true, if_false]
          exact Ev.now _
    · refine ⟨?_, ?_⟩
      all_goals
        simp only [a, b, and_self, decide_true, if_true, decide_false, Bool.false_eq_true, if_false]
        exact Ev.now _
  · refine ⟨?_, ?_⟩
    all_goals
      simp only [a, decide_false, Bool.false_eq_true, if_false]
      exact Ev.now _
/-- What FirstForRising answers. -/
def ffOk (p days more : Int) (e : Int × Bool) : Prop := e.2 = true → (1 ≤ p ∧ p ≤ 2000) ∧ (0 ≤ more ∧ more ≤ 200) ∧ (1 ≤ e.1 ∧ e.1 ≤ 200) ∧ ((rsP p e.1 more).length : Int) ≤ days ∧ (1 < e.1 → days < ((rsP p (e.1 - 1) more).length : Int))
theorem first_ev (p days more : Int) : ∃ e : Int × Bool, Ev (fun k => spec_FirstForRising.f k p days more) e ∧ Ev (fun k => impl_FirstForRising.f k p days more) e ∧ ffOk p days more e := by
  have s0 : Ev (fun k => spec_FirstForRising.j0 k p days more true) (0, false) := by
    refine ev_succ ?_
    simp only [spec_FirstForRising.j0, if_true]
    exact Ev.now _
  have i0 : Ev (fun k => impl_FirstForRising.j0 k p days more true) (0, false) := by
    refine ev_succ ?_
    simp only [impl_FirstForRising.j0, if_true]
    exact Ev.now _
  have no : ffOk p days more (0, false) := fun h => by cases h
  simp only [spec_FirstForRising.f, impl_FirstForRising.f, impl_isMore.f, impl_isDay.f, spec_bpBook_eq, impl_isBook_eq, spec_l1In_eq, impl_within_eq, Option.bind_some]
  by_cases a : 1 ≤ p ∧ p ≤ 2000
  · by_cases b : 1 ≤ days ∧ days ≤ 3000
    · by_cases c : 0 ≤ more ∧ more ≤ 200
      · simp only [a, b, c, and_self, decide_true, if_true, Bool.not_true]
        have key : ∀ (d : Nat) (x : Int), x + (d : Int) = 201 → 1 ≤ x → (1 < x → days < ((rsP p (x - 1) more).length : Int)) → ∃ e : Int × Bool, Ev (fun k => spec_FirstForRising.l0 k p days more x) e ∧ Ev (fun k => impl_FirstForRising.l0 k p days more x) e ∧ ffOk p days more e := by
          intro d
          induction d with
          | zero =>
            intro x h h1 h2
            refine ⟨(0, false), ev_succ ?_, ev_succ ?_, no⟩
            · simp only [spec_FirstForRising.l0]
              refine ev_else (by omega) ?_
              exact Ev.now _
            · simp only [impl_FirstForRising.l0]
              refine ev_else (by omega) ?_
              exact Ev.now _
          | succ d ih =>
            intro x h h1 h2
            obtain ⟨e1, e2⟩ := rising_ev p x more a (by omega) c
            by_cases g : ((rsP p x more).length : Int) ≤ days
            · refine ⟨(x, true), ev_succ ?_, ev_succ ?_, fun _ => ⟨a, c, by dsimp only; omega, g, h2⟩⟩
              · simp only [spec_FirstForRising.l0]
                refine ev_if (by omega) (Ev.bind e1 (ev_if g ?_))
                exact Ev.now _
              · simp only [impl_FirstForRising.l0]
                refine ev_if (by omega) (Ev.bind e2 (ev_if g ?_))
                exact Ev.now _
            · obtain ⟨e, f1, f2, f3⟩ := ih (x + 1) (by omega) (by omega) (fun _ => by rw [show x + 1 - 1 = x by omega]; omega)
              refine ⟨e, ev_succ ?_, ev_succ ?_, f3⟩
              · simp only [spec_FirstForRising.l0]
                refine ev_if (by omega) (Ev.bind e1 (ev_else g ?_))
                rw [w64 (x := x + 1) (by omega) (by omega)]
                exact f1
              · simp only [impl_FirstForRising.l0]
                refine ev_if (by omega) (Ev.bind e2 (ev_else g ?_))
                rw [w64 (x := x + 1) (by omega) (by omega)]
                exact f2
        obtain ⟨e, f1, f2, f3⟩ := key 200 1 (by omega) (by omega) (fun h => by omega)
        refine ⟨e, ev_succ ?_, ev_succ ?_, f3⟩
        · simp only [spec_FirstForRising.j0, Bool.false_eq_true, if_false]
          exact f1
        · simp only [impl_FirstForRising.j0, Bool.false_eq_true, if_false]
          exact f2
      · simp only [a, b, c, and_self, decide_true, if_true, decide_false, Bool.not_false]
        exact ⟨_, s0, i0, no⟩
    · simp only [a, b, and_self, decide_true, if_true, decide_false, Bool.false_eq_true, if_false]
      exact ⟨_, s0, i0, no⟩
  · simp only [a, decide_false, Bool.false_eq_true, if_false]
    exact ⟨_, s0, i0, no⟩
/-- The days of a plan by parts. -/
def ptL (n d : Int) : Nat → Int → List Int
  | 0, _ => []
  | t + 1, L => if 0 < L then (L * n + d - 1) / d :: ptL n d t (L - (L * n + d - 1) / d) else []
theorem pt_len (n d : Int) : ∀ (t : Nat) (L : Int), (ptL n d t L).length ≤ t
  | 0, _ => Nat.le_refl 0
  | t + 1, L => by
    rw [ptL]
    split
    · have := pt_len n d t (L - (L * n + d - 1) / d)
      rw [List.length_cons]
      omega
    · simp
theorem pt_sum (n d : Int) (h : 1 ≤ n ∧ n < d) : ∀ (t : Nat) (L : Int), 0 ≤ L → L ≤ t → sm (ptL n d t L) = L
  | 0, L, h0, h1 => by
    show (0 : Int) = L
    omega
  | t + 1, L, h0, h1 => by
    rw [ptL]
    by_cases c : 0 < L
    · have hb := part_q (L := L) (n := n) (d := d) (by omega) h.1 h.2
      rw [if_pos c, sm, pt_sum n d h t _ (by omega) (by omega)]
      omega
    · rw [if_neg c]
      show (0 : Int) = L
      omega
theorem pt_mem (n d : Int) (h : 1 ≤ n ∧ n < d) : ∀ (t : Nat) (L : Int), L ≤ 2000 → ∀ x ∈ ptL n d t L, 1 ≤ x ∧ x ≤ 2000
  | 0, _, _, x, hx => by cases hx
  | t + 1, L, h1, x, hx => by
    rw [ptL] at hx
    by_cases c : 0 < L
    · have hb := part_q (L := L) (n := n) (d := d) (by omega) h.1 h.2
      rw [if_pos c] at hx
      rcases List.mem_cons.1 hx with e | e
      · rw [e]; omega
      · exact pt_mem n d h t _ (by omega) x e
    · rw [if_neg c] at hx
      cases hx
theorem pt_pos (n d : Int) (t : Nat) (L : Int) (h : 0 < L) (ht : 1 ≤ t) : 1 ≤ (ptL n d t L).length := by
  obtain ⟨t, rfl⟩ : ∃ s, t = s + 1 := ⟨t - 1, by omega⟩
  rw [ptL, if_pos h, List.length_cons]
  omega
theorem part_walk (n d : Int) (h : 1 ≤ n ∧ n < d ∧ d ≤ 200) : ∀ (t : Nat) (L : Int) (out : List Int), 0 ≤ L → L ≤ t → t ≤ 2000 → out.length + t ≤ 10000 →
    Ev (fun k => spec_rdParts.l0 k L n d out) (out ++ ptL n d t L) ∧ Ev (fun k => impl_PartPlan.l0 k n d out L) (out ++ ptL n d t L, true) := by
  intro t
  induction t with
  | zero =>
    intro L out h0 h1 h2 ho
    refine ⟨ev_succ ?_, ev_succ ?_⟩
    · simp only [spec_rdParts.l0]
      refine ev_else (by omega) ?_
      exact ev_ret (by simp [ptL])
    · simp only [impl_PartPlan.l0]
      refine ev_else (by omega) ?_
      exact ev_ret (by simp [ptL])
  | succ t ih =>
    intro L out h0 h1 h2 ho
    rw [ptL]
    by_cases c : L > 0
    · have hq := part_q (L := L) (n := n) (d := d) (by omega) h.1 h.2.1
      have hb := part_bd (L := L) (n := n) (by omega) (by omega)
      have hd : Int.tdiv (L * n + d - 1) d = (L * n + d - 1) / d := Int.tdiv_eq_ediv_of_nonneg (by omega)
      have e1 : wrap64 (Int.tdiv (wrap64 ((wrap64 ((wrap64 (L * n)) + d)) - 1)) d) = (L * n + d - 1) / d := by
        rw [w64 (x := L * n) (by omega) (by omega), w64 (x := L * n + d) (by omega) (by omega), w64 (x := L * n + d - 1) (by omega) (by omega), hd, w64 (by omega) (by omega)]
      obtain ⟨a1, a2⟩ := ih (L - (L * n + d - 1) / d) (out ++ [(L * n + d - 1) / d]) (by omega) (by omega) (by omega) (by rw [List.length_append]; simp only [List.length_cons, List.length_nil]; omega)
      rw [List.append_assoc, List.singleton_append] at a1 a2
      rw [if_pos c]
      refine ⟨ev_succ ?_, ev_succ ?_⟩
      · simp only [spec_rdParts.l0]
        refine ev_if c ?_
        refine ev_else (by omega) ?_
        refine ev_if (by omega) ?_
        rw [e1, w64 (x := L - (L * n + d - 1) / d) (by omega) (by omega)]
        exact a1
      · simp only [impl_PartPlan.l0]
        refine ev_if c ?_
        refine ev_else (by omega) ?_
        refine ev_if (by omega) ?_
        rw [e1, w64 (x := L - (L * n + d - 1) / d) (by omega) (by omega)]
        exact a2
    · rw [if_neg c, List.append_nil]
      refine ⟨ev_succ ?_, ev_succ ?_⟩
      · simp only [spec_rdParts.l0]
        refine ev_else c ?_
        exact Ev.now _
      · simp only [impl_PartPlan.l0]
        refine ev_else c ?_
        exact Ev.now _
def ptP (p n d : Int) : List Int := ptL n d p.toNat p
def ptOk (p n d : Int) : Bool := decide (1 ≤ p ∧ p ≤ 2000) && partOk n d
theorem ptOk_is {p n d : Int} (h : ptOk p n d = true) : (1 ≤ p ∧ p ≤ 2000) ∧ 1 ≤ n ∧ n < d ∧ d ≤ 200 := by
  simp only [ptOk, partOk, Bool.and_eq_true, decide_eq_true_eq] at h
  exact h
/-- PartPlan and DaysOfParts. -/
theorem parts_ev (p n d : Int) : ∃ r : List Int × Bool, Ev (fun k => spec_PartPlan.f k p n d) r ∧ Ev (fun k => impl_PartPlan.f k p n d) r ∧ Ev (fun k => spec_DaysOfParts.f k p n d) ((r.1.length : Int), r.2) ∧ r.1.length ≤ 2000 ∧ (r.2 = true → ptOk p n d = true ∧ r.1 = ptP p n d) := by
  simp only [spec_PartPlan.f, impl_PartPlan.f, spec_DaysOfParts.f]
  have no : Ev (fun k => impl_PartPlan.j0 k p n d true) ([], false) := by
    refine ev_succ ?_
    simp only [impl_PartPlan.j0, if_true]
    exact Ev.now _
  by_cases a : 1 ≤ p ∧ p ≤ 2000
  · by_cases b : partOk n d = true
    · have hb := b
      simp only [partOk, decide_eq_true_eq] at hb
      obtain ⟨a1, a2⟩ := part_walk n d hb p.toNat p [] (by omega) (by omega) (by omega) (by simp; omega)
      rw [List.nil_append] at a1 a2
      have hl := pt_len n d p.toNat p
      refine ⟨(ptP p n d, true), ev_some (spec_bpBook_eq p) ?_, ev_some (impl_isBook_eq p) ?_, ev_some (spec_bpBook_eq p) ?_, by simp only [ptP]; omega, fun _ => ⟨by simp only [ptOk, a, b, and_self, decide_true, Bool.and_true], rfl⟩⟩
      · simp only [a, and_self, decide_true, if_true]
        refine ev_some (spec_rdPart_eq n d) ?_
        simp only [b, if_true]
        exact ev_map a1 rfl
      · simp only [a, and_self, decide_true, if_true]
        refine ev_some (impl_isPart_eq n d) ?_
        simp only [b, Bool.not_true]
        refine ev_succ ?_
        simp only [impl_PartPlan.j0, Bool.false_eq_true, if_false]
        exact a2
      · simp only [a, and_self, decide_true, if_true]
        refine ev_some (spec_rdPart_eq n d) ?_
        simp only [b, if_true]
        exact ev_map a1 rfl
    · refine ⟨([], false), ev_some (spec_bpBook_eq p) ?_, ev_some (impl_isBook_eq p) ?_, ev_some (spec_bpBook_eq p) ?_, by simp, fun h => by cases h⟩
      · simp only [a, and_self, decide_true, if_true]
        refine ev_some (spec_rdPart_eq n d) ?_
        simp only [b, Bool.false_eq_true, if_false]
        exact Ev.now _
      · simp only [a, and_self, decide_true, if_true]
        refine ev_some (impl_isPart_eq n d) ?_
        simp only [b, Bool.not_false]
        exact no
      · simp only [a, and_self, decide_true, if_true]
        refine ev_some (spec_rdPart_eq n d) ?_
        simp only [b, Bool.false_eq_true, if_false]
        exact Ev.now _
  · refine ⟨([], false), ev_some (spec_bpBook_eq p) ?_, ev_some (impl_isBook_eq p) ?_, ev_some (spec_bpBook_eq p) ?_, by simp, fun h => by cases h⟩
    · simp only [a, decide_false, Bool.false_eq_true, if_false]
      exact Ev.now _
    · simp only [a, decide_false, Bool.false_eq_true, if_false]
      exact no
    · simp only [a, decide_false, Bool.false_eq_true, if_false]
      exact Ev.now _

theorem spec_l1All_ev (lo hi : Int) (l : List Int) (hl : l.length ≤ 4611686018427387903) : Ev (fun k => spec_l1All.f k l lo hi) (l.all fun x => decide (lo ≤ x ∧ x ≤ hi)) := by
  have key : ∀ (d i : Nat), i + d = l.length → Ev (fun k => spec_l1All.l0 k lo hi l (l.length : Int) (i : Int)) ((l.drop i).all fun x => decide (lo ≤ x ∧ x ≤ hi)) := by
    intro d
    induction d with
    | zero =>
      intro i h
      rw [List.drop_eq_nil_of_le (by omega)]
      exact Ev.step (f := fun _ => some true) (fun k => by simp only [spec_l1All.l0]; rw [if_neg (by omega)]) (Ev.now _)
    | succ d ih =>
      intro i h
      have hi' : i < l.length := by omega
      rw [List.drop_eq_getElem_cons hi', List.all_cons]
      refine Ev.step (f := fun k => (spec_l1In.f l[i] lo hi).bind fun t => if t = true then spec_l1All.l0 k lo hi l (l.length : Int) ((i + 1 : Nat) : Int) else some false) (fun k => by simp only [spec_l1All.l0]; rw [if_pos (by omega), if_pos (by omega), if_pos (by omega), rd_nat l i hi', w64s (by omega)]) ?_
      refine ev_some (spec_l1In_eq _ _ _) ?_
      by_cases c : lo ≤ l[i] ∧ l[i] ≤ hi
      · simp only [c, and_self, decide_true, if_true, Bool.true_and]
        exact ih (i + 1) (by omega)
      · simp only [c, decide_false, Bool.false_and, Bool.false_eq_true, if_false]
        exact Ev.now _
  exact key l.length 0 (by omega)

theorem impl_allWithin_ev (lo hi : Int) (l : List Int) (hl : l.length ≤ 4611686018427387903) : Ev (fun k => impl_allWithin.f k l lo hi) (l.all fun x => decide (lo ≤ x ∧ x ≤ hi)) := by
  have key : ∀ (d i : Nat), i + d = l.length → Ev (fun k => impl_allWithin.l0 k lo hi l (l.length : Int) (i : Int)) ((l.drop i).all fun x => decide (lo ≤ x ∧ x ≤ hi)) := by
    intro d
    induction d with
    | zero =>
      intro i h
      rw [List.drop_eq_nil_of_le (by omega)]
      exact Ev.step (f := fun _ => some true) (fun k => by simp only [impl_allWithin.l0]; rw [if_neg (by omega)]) (Ev.now _)
    | succ d ih =>
      intro i h
      have hi' : i < l.length := by omega
      rw [List.drop_eq_getElem_cons hi', List.all_cons]
      refine Ev.step (f := fun k => (impl_within.f l[i] lo hi).bind fun t => if t = true then impl_allWithin.l0 k lo hi l (l.length : Int) ((i + 1 : Nat) : Int) else some false) (fun k => by simp only [impl_allWithin.l0]; rw [if_pos (by omega), if_pos (by omega), if_pos (by omega), rd_nat l i hi', w64s (by omega)]) ?_
      refine ev_some (impl_within_eq _ _ _) ?_
      by_cases c : lo ≤ l[i] ∧ l[i] ≤ hi
      · simp only [c, and_self, decide_true, if_true, Bool.true_and]
        exact ih (i + 1) (by omega)
      · simp only [c, decide_false, Bool.false_and, Bool.false_eq_true, if_false]
        exact Ev.now _
  exact key l.length 0 (by omega)

theorem rdL2_nat (l : List (List Int)) (i : Nat) (h : i < l.length) : rd_L2 l (i : Int) = l[i] := by
  unfold rd_L2
  rw [Int.toNat_natCast, List.getD_eq_getElem?_getD, List.getElem?_eq_getElem h]
  rfl
/-- Forward again from W one comes behind n parts to v. -/
def Fwd (l : List (List Int)) (es : List Int) (W : Int) (n : Nat) (v : Int) : Prop := ∀ left : Int, Ev (fun k => laws_FnReadersPlan.l3 k left es W v l (l.length : Int) (n : Int)) true → Ev (fun k => laws_FnReadersPlan.l3 k left es W W l (l.length : Int) 0) true
def rowOk (x : List Int) : Bool := decide ((x.length : Int) = 2) && partOk (rd x 0) (rd x 1)
theorem partOk_is {a b : Int} (h : partOk a b = true) : 1 ≤ a ∧ a < b ∧ b ≤ 200 := of_decide_eq_true h
theorem after_back (l : List (List Int)) (es : List Int) (hrows : ∀ x ∈ l, rowOk x = true) (hes : ∀ x ∈ es, 0 ≤ x ∧ x ≤ 200) (hlen : l.length = es.length) (h6 : l.length ≤ 6) : ∀ (n : Nat) (L : Int), n ≤ l.length → 0 ≤ L → L ≤ 2000 → ∃ e : Int × Bool, Ev (fun k => spec_AfterParts.l1 k L l es ((n : Int) - 1)) e ∧ Ev (fun k => impl_AfterParts.l1 k L l es ((n : Int) - 1)) e ∧ (e.2 = true → e.1 ≤ 2000 ∧ L ≤ e.1 ∧ Fwd l es e.1 n L) := by
  intro n
  induction n with
  | zero =>
    intro L h h0 h1
    refine ⟨(L, true), ev_succ ?_, ev_succ ?_, fun _ => ⟨h1, Int.le_refl _, fun _ hE => hE⟩⟩
    · simp only [spec_AfterParts.l1]
      refine ev_else (by omega) ?_
      exact Ev.now _
    · simp only [impl_AfterParts.l1]
      refine ev_else (by omega) ?_
      exact Ev.now _
  | succ n ih =>
    intro L h h0 h1
    have hn : n < l.length := by omega
    have hn2 : n < es.length := by omega
    have r1 := hrows l[n] (List.getElem_mem hn)
    have r2 := hes es[n] (List.getElem_mem hn2)
    simp only [rowOk, Bool.and_eq_true, decide_eq_true_eq] at r1
    have r3 := partOk_is r1.2
    have hx : ((n + 1 : Nat) : Int) - 1 = (n : Int) := by omega
    rw [hx]
    have hlen2 := r1.1
    have e1 := rdL2_nat l n hn
    have e2 := rd_nat es n hn2
    generalize l[n] = row at *
    generalize es[n] = E at *
    generalize hA : rd row 0 = A at *
    generalize hB : rd row 1 = B at *
    have t0 : 0 ≤ (L + E) * B := Int.mul_nonneg (by omega) (by omega)
    have t1 : (L + E) * B ≤ 2200 * 200 := Int.mul_le_mul (by omega) (by omega) (by omega) (by omega)
    have q0 : 0 ≤ (L + E) * B / (B - A) := Int.ediv_nonneg t0 (by omega)
    have q1 : (L + E) * B / (B - A) ≤ (L + E) * B := Int.ediv_le_self _ t0
    have p0 : 0 ≤ (L + E) * B / (B - A) * A := Int.mul_nonneg q0 (by omega)
    have p1 : (L + E) * B / (B - A) * A ≤ 440000 * 200 := Int.mul_le_mul (by omega) (by omega) (by omega) (by omega)
    by_cases c : (L + E) * B % (B - A) = 0
    · have hq : (L + E) * B / (B - A) * (B - A) = (L + E) * B := Int.ediv_mul_cancel_of_emod_eq_zero c
      have hz : (L + E) * B / (B - A) * A % B = 0 := by
        have : (L + E) * B / (B - A) * A = ((L + E) * B / (B - A) - (L + E)) * B := by
          rw [Int.sub_mul]
          rw [Int.mul_sub] at hq
          omega
        rw [this]
        exact Int.mul_emod_left _ _
      have hB0 : 0 < B := by omega
      have hX : ((L + E) * B / (B - A) - (L + E)) * B = (L + E) * B / (B - A) * A := by
        rw [Int.sub_mul]
        rw [Int.mul_sub] at hq
        omega
      have hY : 0 ≤ (L + E) * B / (B - A) - (L + E) := by
        rcases (show (L + E) * B / (B - A) - (L + E) < 0 ∨ 0 ≤ (L + E) * B / (B - A) - (L + E) from by omega) with hn1 | hn1
        · have := Int.mul_neg_of_neg_of_pos hn1 hB0
          omega
        · exact hn1
      have stepF : ∀ W, (L + E) * B / (B - A) ≤ 2000 → Fwd l es W n ((L + E) * B / (B - A)) → Fwd l es W (n + 1) L := by
        intro W hle hF left hE
        refine hF left (ev_succ ?_)
        have z3 : Int.tdiv ((L + E) * B / (B - A) * A) B = (L + E) * B / (B - A) - (L + E) := by
          rw [Int.tdiv_eq_ediv_of_nonneg p0, ← hX, Int.mul_ediv_cancel _ (by omega)]
        have z2 : Int.tmod ((L + E) * B / (B - A) * A) B = 0 := by rw [Int.tmod_eq_emod_of_nonneg p0]; exact hz
        simp only [laws_FnReadersPlan.l3, e1, e2, hA, hB]
        simp only [w64 (x := (L + E) * B / (B - A) * A) (by omega) (by omega)]
        refine ev_if (by omega) (ev_if (by omega) (ev_if (by omega) (ev_if (by omega) (ev_if (by omega) (ev_else (by omega) (ev_if z2 (ev_if (by omega) ?_)))))))
        rw [z3, w64s (by omega), w64 (x := (L + E) * B / (B - A) - (L + E)) (by omega) (by omega), w64 (x := (L + E) * B / (B - A) - (L + E) + E) (by omega) (by omega), show (L + E) * B / (B - A) - ((L + E) * B / (B - A) - (L + E) + E) = L by omega, w64 (by omega) (by omega)]
        exact hE
      have body : ∀ e, (¬ (L + E) * B / (B - A) > 2000 → Ev (fun k => spec_AfterParts.l1 k ((L + E) * B / (B - A)) l es ((n : Int) - 1)) e ∧ Ev (fun k => impl_AfterParts.l1 k ((L + E) * B / (B - A)) l es ((n : Int) - 1)) e) → ((L + E) * B / (B - A) > 2000 → e = (0, false)) → Ev (fun k => spec_AfterParts.l1 k L l es (n : Int)) e ∧ Ev (fun k => impl_AfterParts.l1 k L l es (n : Int)) e := by
        intro e f1 f2
        have z1 : Int.tmod ((L + E) * B) (B - A) = 0 := by rw [Int.tmod_eq_emod_of_nonneg t0]; exact c
        have z2 : Int.tmod ((L + E) * B / (B - A) * A) B = 0 := by rw [Int.tmod_eq_emod_of_nonneg p0]; exact hz
        refine ⟨ev_succ ?_, ev_succ ?_⟩
        · simp only [spec_AfterParts.l1, e1, e2, hA, hB]
          refine ev_if (by omega) (ev_if (by omega) (ev_if (by omega) (ev_if (by omega) (ev_if (by omega) (ev_if (by omega) ?_)))))
          simp only [w64 (x := L + E) (by omega) (by omega), w64 (x := B - A) (by omega) (by omega), w64 (x := (L + E) * B) (by omega) (by omega), Int.tdiv_eq_ediv_of_nonneg t0, w64 (x := (L + E) * B / (B - A)) (by omega) (by omega), w64 (x := (L + E) * B / (B - A) * A) (by omega) (by omega), w64 (x := (n : Int) - 1) (by omega) (by omega)]
          refine ev_else (by omega) (ev_if z1 (ev_else (by omega) (ev_if z2 ?_)))
          by_cases g : (L + E) * B / (B - A) > 2000
          · refine ev_if g ?_
            rw [f2 g]
            exact Ev.now _
          · refine ev_else g ?_
            exact (f1 g).1
        · simp only [impl_AfterParts.l1, e1, e2, hA, hB]
          refine ev_if (by omega) (ev_if (by omega) (ev_if (by omega) (ev_if (by omega) (ev_if (by omega) (ev_if (by omega) ?_)))))
          simp only [w64 (x := L + E) (by omega) (by omega), w64 (x := B - A) (by omega) (by omega), w64 (x := (L + E) * B) (by omega) (by omega), Int.tdiv_eq_ediv_of_nonneg t0, w64 (x := (L + E) * B / (B - A)) (by omega) (by omega), w64 (x := (n : Int) - 1) (by omega) (by omega)]
          refine ev_else (by omega) (ev_if z1 ?_)
          by_cases g : (L + E) * B / (B - A) > 2000
          · refine ev_if g ?_
            rw [f2 g]
            exact Ev.now _
          · refine ev_else g ?_
            exact (f1 g).2
      by_cases g : (L + E) * B / (B - A) > 2000
      · obtain ⟨y1, y2⟩ := body (0, false) (fun h => absurd g h) (fun _ => rfl)
        exact ⟨(0, false), y1, y2, fun h => by cases h⟩
      · obtain ⟨e, g1, g2, g3⟩ := ih ((L + E) * B / (B - A)) (by omega) q0 (by omega)
        obtain ⟨y1, y2⟩ := body e (fun _ => ⟨g1, g2⟩) (fun h => absurd h g)
        exact ⟨e, y1, y2, fun h => ⟨(g3 h).1, by have := (g3 h).2.1; omega, stepF e.1 (by omega) (g3 h).2.2⟩⟩
    · have z1 : ¬ Int.tmod ((L + E) * B) (B - A) = 0 := by rw [Int.tmod_eq_emod_of_nonneg t0]; exact c
      refine ⟨(0, false), ev_succ ?_, ev_succ ?_, fun h => by cases h⟩
      · simp only [spec_AfterParts.l1, e1, e2, hA, hB]
        refine ev_if (by omega) (ev_if (by omega) (ev_if (by omega) (ev_if (by omega) (ev_if (by omega) (ev_if (by omega) ?_)))))
        simp only [w64 (x := L + E) (by omega) (by omega), w64 (x := B - A) (by omega) (by omega), w64 (x := (L + E) * B) (by omega) (by omega)]
        refine ev_else (by omega) (ev_else z1 ?_)
        exact Ev.now _
      · simp only [impl_AfterParts.l1, e1, e2, hA, hB]
        refine ev_if (by omega) (ev_if (by omega) (ev_if (by omega) (ev_if (by omega) (ev_if (by omega) (ev_if (by omega) ?_)))))
        simp only [w64 (x := L + E) (by omega) (by omega), w64 (x := B - A) (by omega) (by omega), w64 (x := (L + E) * B) (by omega) (by omega)]
        refine ev_else (by omega) (ev_else z1 ?_)
        exact Ev.now _
theorem after_walk (L : Int) (hL : 0 ≤ L ∧ L ≤ 2000) (l : List (List Int)) (es : List Int) (hes : ∀ x ∈ es, 0 ≤ x ∧ x ≤ 200) (hlen : l.length = es.length) (h6 : l.length ≤ 6) : ∃ e : Int × Bool, Ev (fun k => spec_AfterParts.l0 k L l es l (l.length : Int) 0) e ∧ Ev (fun k => impl_AfterParts.l0 k L l es l (l.length : Int) 0) e ∧ (e.2 = true → e.1 ≤ 2000 ∧ L ≤ e.1 ∧ Fwd l es e.1 l.length L) := by
  have key : ∀ (d i : Nat), i + d = l.length → (∀ x ∈ l.take i, rowOk x = true) → ∃ e : Int × Bool, Ev (fun k => spec_AfterParts.l0 k L l es l (l.length : Int) (i : Int)) e ∧ Ev (fun k => impl_AfterParts.l0 k L l es l (l.length : Int) (i : Int)) e ∧ (e.2 = true → e.1 ≤ 2000 ∧ L ≤ e.1 ∧ Fwd l es e.1 l.length L) := by
    intro d
    induction d with
    | zero =>
      intro i h hall
      rw [List.take_of_length_le (by omega)] at hall
      obtain ⟨e, e1, e2, e3⟩ := after_back l es hall hes hlen h6 l.length L (Nat.le_refl _) hL.1 hL.2
      refine ⟨e, ev_succ ?_, ev_succ ?_, e3⟩
      · simp only [spec_AfterParts.l0]
        refine ev_else (by omega) ?_
        rw [w64 (by omega) (by omega)]
        exact e1
      · simp only [impl_AfterParts.l0]
        refine ev_else (by omega) ?_
        rw [w64 (by omega) (by omega)]
        exact e2
    | succ d ih =>
      intro i h hall
      have hi : i < l.length := by omega
      by_cases c : (l[i].length : Int) = 2
      · by_cases b : partOk (rd l[i] 0) (rd l[i] 1) = true
        · obtain ⟨e, e1, e2, e3⟩ := ih (i + 1) (by omega) (fun x hx => by
            rw [List.take_succ_eq_append_getElem hi] at hx
            rcases List.mem_append.1 hx with hx | hx
            · exact hall x hx
            · rw [List.mem_singleton.1 hx, rowOk, b, Bool.and_true]
              exact decide_eq_true c)
          refine ⟨e, ev_succ ?_, ev_succ ?_, e3⟩
          · simp only [spec_AfterParts.l0, rdL2_nat l i hi, spec_rdPart_eq, Option.bind_some, b, if_true]
            refine ev_if (by omega) (ev_if (by omega) (ev_if (by omega) (ev_if c (ev_if (by omega) (ev_if (by omega) ?_)))))
            rw [w64s (by omega)]
            exact e1
          · simp only [impl_AfterParts.l0, rdL2_nat l i hi, impl_isPart_eq, Option.bind_some, b, if_true]
            refine ev_if (by omega) (ev_if (by omega) (ev_if (by omega) (ev_if c (ev_if (by omega) (ev_if (by omega) ?_)))))
            rw [w64s (by omega)]
            exact e2
        · refine ⟨(0, false), ev_succ ?_, ev_succ ?_, fun h => by cases h⟩
          · simp only [spec_AfterParts.l0, rdL2_nat l i hi, spec_rdPart_eq, Option.bind_some, b, Bool.false_eq_true, if_false]
            refine ev_if (by omega) (ev_if (by omega) (ev_if (by omega) (ev_if c (ev_if (by omega) (ev_if (by omega) ?_)))))
            exact Ev.now _
          · simp only [impl_AfterParts.l0, rdL2_nat l i hi, impl_isPart_eq, Option.bind_some, b, Bool.false_eq_true, if_false]
            refine ev_if (by omega) (ev_if (by omega) (ev_if (by omega) (ev_if c (ev_if (by omega) (ev_if (by omega) ?_)))))
            exact Ev.now _
      · refine ⟨(0, false), ev_succ ?_, ev_succ ?_, fun h => by cases h⟩
        · simp only [spec_AfterParts.l0, rdL2_nat l i hi]
          refine ev_if (by omega) (ev_if (by omega) (ev_if (by omega) (ev_else c ?_)))
          exact Ev.now _
        · simp only [impl_AfterParts.l0, rdL2_nat l i hi]
          refine ev_if (by omega) (ev_if (by omega) (ev_if (by omega) (ev_else c ?_)))
          exact Ev.now _
  exact key l.length 0 (by omega) (by simp)
theorem after_ev (L : Int) (l : List (List Int)) (es : List Int) (hl : l.length ≤ 1048576) (he : es.length ≤ 1048576) : ∃ e : Int × Bool, Ev (fun k => spec_AfterParts.f k L l es) e ∧ Ev (fun k => impl_AfterParts.f k L l es) e ∧ (e.2 = true → e.1 ≤ 2000 ∧ L ≤ e.1 ∧ Fwd l es e.1 l.length L) := by
  have s0 : Ev (fun k => spec_AfterParts.j0 k L l es true) (0, false) := by
    refine ev_succ ?_
    simp only [spec_AfterParts.j0, if_true]
    exact Ev.now _
  have i0 : Ev (fun k => impl_AfterParts.j0 k L l es true) (0, false) := by
    refine ev_succ ?_
    simp only [impl_AfterParts.j0, if_true]
    exact Ev.now _
  simp only [spec_AfterParts.f, impl_AfterParts.f, spec_l1In_eq, impl_within_eq, Option.bind_some]
  by_cases a : 0 ≤ L ∧ L ≤ 2000
  · simp only [a, and_self, decide_true, if_true]
    by_cases b : (l.length : Int) > 6
    · simp only [b, if_true]
      exact ⟨_, s0, i0, fun h => by cases h⟩
    · simp only [b, if_false]
      by_cases c : (l.length : Int) = (es.length : Int)
      · simp only [c, if_true]
        by_cases d : (es.all fun x => decide (0 ≤ x ∧ x ≤ 200)) = true
        · obtain ⟨e, e1, e2, e3⟩ := after_walk L a l es (fun x hx => of_decide_eq_true (List.all_eq_true.1 d x hx)) (by omega) (by omega)
          refine ⟨e, ?_, ?_, e3⟩
          · refine Ev.bind (spec_l1All_ev 0 200 es (by omega)) ?_
            rw [d]
            refine ev_succ ?_
            simp only [spec_AfterParts.j0, Bool.not_true, Bool.false_eq_true, if_false]
            exact e1
          · refine Ev.bind (impl_allWithin_ev 0 200 es (by omega)) ?_
            rw [d]
            refine ev_succ ?_
            simp only [impl_AfterParts.j0, Bool.not_true, Bool.false_eq_true, if_false]
            exact e2
        · simp only [Bool.not_eq_true] at d
          refine ⟨(0, false), ?_, ?_, fun h => by cases h⟩
          · refine Ev.bind (spec_l1All_ev 0 200 es (by omega)) ?_
            rw [d]
            exact s0
          · refine Ev.bind (impl_allWithin_ev 0 200 es (by omega)) ?_
            rw [d]
            exact i0
      · simp only [c, if_false]
        exact ⟨_, s0, i0, fun h => by cases h⟩
  · simp only [a, decide_false, Bool.false_eq_true, if_false]
    exact ⟨_, s0, i0, fun h => by cases h⟩

theorem rd_mid (pre R : List Int) (x : Int) : rd (pre ++ x :: R) (pre.length : Int) = x := by
  unfold rd
  rw [Int.toNat_natCast, List.getD_eq_getElem?_getD, List.getElem?_append_right (Nat.le_refl _), Nat.sub_self]
  rfl
/-- The law's look at what AfterParts answers. -/
theorem j12_ev (L : Int) (l : List (List Int)) (es : List Int) (W : Int) (b : Bool) (h : b = true → W ≤ 2000 ∧ L ≤ W ∧ Fwd l es W l.length L) : Ev (fun k => laws_FnReadersPlan.j12 k L l es W b) true := by
  refine ev_succ ?_
  simp only [laws_FnReadersPlan.j12]
  by_cases c : b = true
  · obtain ⟨h1, h2, h3⟩ := h c
    refine ev_if c ?_
    refine h3 L (ev_succ ?_)
    simp only [laws_FnReadersPlan.l3]
    refine ev_else (by omega) (ev_if trivial (ev_else (by omega) (ev_else (by omega) ?_)))
    exact Ev.now _
  · refine ev_else c ?_
    exact Ev.now _
theorem l2_ev (p n d : Int) (ok : ptOk p n d = true) (x43 : Int) (x44 : List (List Int)) (x45 : List Int) (x46 : Int) (x47 : Bool) (h12 : Ev (fun k => laws_FnReadersPlan.j12 k x43 x44 x45 x46 x47) true) : Ev (fun k => laws_FnReadersPlan.l2 k n d x43 x44 x45 x46 x47 p (ptP p n d) ((ptP p n d).length : Int) 0) true := by
  obtain ⟨hp, hn, hd, h2⟩ := ptOk_is ok
  have key : ∀ (t : Nat) (L : Int) (i : Nat) (pre : List Int), ptP p n d = pre ++ ptL n d t L → pre.length = i → 0 ≤ L → L ≤ t → L ≤ 2000 → i + t ≤ 4000 → Ev (fun k => laws_FnReadersPlan.l2 k n d x43 x44 x45 x46 x47 L (ptP p n d) ((ptP p n d).length : Int) (i : Int)) true := by
    intro t
    induction t with
    | zero =>
      intro L i pre hW hi h0 h1 h3 h4
      have hl : (ptP p n d).length = i := by rw [hW, ← hi]; simp [ptL]
      refine ev_succ ?_
      simp only [laws_FnReadersPlan.l2]
      refine ev_else (by omega) ?_
      exact h12
    | succ t ih =>
      intro L i pre hW hi h0 h1 h3 h4
      rw [ptL] at hW
      by_cases c : 0 < L
      · rw [if_pos c] at hW
        have hq := part_q (L := L) (n := n) (d := d) (by omega) hn hd
        have hb := part_bd (L := L) (n := n) (by omega) (by omega)
        have g1 := Int.ediv_mul_le (L * n + d - 1) (show d ≠ 0 by omega)
        have g2 := Int.lt_ediv_add_one_mul_self (L * n + d - 1) (show 0 < d by omega)
        generalize hx : (L * n + d - 1) / d = x at *
        rw [Int.add_mul, Int.one_mul] at g2
        have g3 : (x - 1) * d = x * d - d := by rw [Int.sub_mul, Int.one_mul]
        have hl : (ptP p n d).length = i + 1 + (ptL n d t (L - x)).length := by
          rw [hW, List.length_append, List.length_cons]
          omega
        have hr : rd (ptP p n d) (i : Int) = x := by rw [hW, ← hi]; exact rd_mid _ _ _
        have hn1 := ih (L - x) (i + 1) (pre ++ [x]) (by rw [hW, List.append_assoc]; rfl) (by rw [List.length_append, hi]; rfl) (by omega) (by omega) (by omega) (by omega)
        refine ev_succ ?_
        simp only [laws_FnReadersPlan.l2]
        rw [hr, w64 (x := x * d) (by omega) (by omega), w64 (x := L * n) (by omega) (by omega), w64 (x := x - 1) (by omega) (by omega), w64 (x := (x - 1) * d) (by omega) (by omega), w64 (x := L - x) (by omega) (by omega), w64s (show i < 4611686018427387904 by omega)]
        refine ev_if (by omega) (ev_if (by omega) (ev_if (by omega) (ev_else (by omega) (ev_else (by omega) ?_))))
        exact hn1
      · rw [if_neg c] at hW
        have hl : (ptP p n d).length = i := by rw [hW, ← hi]; simp
        refine ev_succ ?_
        simp only [laws_FnReadersPlan.l2]
        refine ev_else (by omega) ?_
        exact h12
  exact key p.toNat p 0 [] rfl rfl (by omega) (by omega) (by omega) (by omega)
theorem j9_ev (p n d : Int) (r : List Int) (b : Bool) (hr : b = true → ptOk p n d = true ∧ r = ptP p n d) (x43 : Int) (x44 : List (List Int)) (x45 : List Int) (x46 : Int) (x47 : Bool) (h12 : Ev (fun k => laws_FnReadersPlan.j12 k x43 x44 x45 x46 x47) true) : Ev (fun k => laws_FnReadersPlan.j9 k p n d r b (r.length : Int) x43 x44 x45 x46 x47) true := by
  refine ev_succ ?_
  simp only [laws_FnReadersPlan.j9]
  by_cases c : b = true
  · obtain ⟨ok, rfl⟩ := hr c
    obtain ⟨hp, hn, hd, h2⟩ := ptOk_is ok
    have hm := pt_mem n d ⟨hn, hd⟩ p.toNat p (by omega)
    have hl := pt_len n d p.toNat p
    have hs := pt_sum n d ⟨hn, hd⟩ p.toNat p (by omega) (by omega)
    have hpos := pt_pos n d p.toNat p (by omega) (by omega)
    have hll : ((ptP p n d).length : Int) = ((ptL n d p.toNat p).length : Int) := rfl
    refine ev_if c (ev_if trivial ?_)
    refine Ev.bind (xSum_ev (ptP p n d) (fun x hx => by have := hm x hx; omega) (by have : (ptP p n d).length = (ptL n d p.toNat p).length := rfl; omega)) ?_
    refine ev_if hs ?_
    rw [w64 (by omega) (by omega)]
    refine ev_if (by omega) (ev_if (by omega) ?_)
    have hlast : ¬ rd (ptP p n d) (((ptP p n d).length : Int) - 1) < 1 := by
      have hi : (ptP p n d).length - 1 < (ptP p n d).length := by omega
      have e : ((ptP p n d).length : Int) - 1 = (((ptP p n d).length - 1 : Nat) : Int) := by omega
      rw [e, rd_nat _ _ hi]
      have := hm _ (List.getElem_mem (show (ptP p n d).length - 1 < (ptL n d p.toNat p).length from hi))
      show ¬ (ptL n d p.toNat p)[(ptP p n d).length - 1] < 1
      omega
    refine ev_succ ?_
    simp only [laws_FnReadersPlan.j10]
    refine ev_else (by rw [decide_eq_true_eq]; exact hlast) ?_
    exact l2_ev p n d ok x43 x44 x45 x46 x47 h12
  · refine ev_else c ?_
    exact h12
theorem j7_ev (u most rise : Int) (e : Int × Bool) (he : ffOk u most rise e) (x32 x33 x34 : Int) (x35 : List Int) (x36 : Bool) (x39 x43 : Int) (x44 : List (List Int)) (x45 : List Int) (x46 : Int) (x47 : Bool) (h9 : Ev (fun k => laws_FnReadersPlan.j9 k x32 x33 x34 x35 x36 x39 x43 x44 x45 x46 x47) true) : Ev (fun k => laws_FnReadersPlan.j7 k u most rise e.1 e.2 x32 x33 x34 x35 x36 x39 x43 x44 x45 x46 x47) true := by
  refine ev_succ ?_
  simp only [laws_FnReadersPlan.j7]
  by_cases c : e.2 = true
  · obtain ⟨a, b, f, g1, g2⟩ := he c
    refine ev_if c ?_
    refine Ev.bind (rsPlan_yes u e.1 rise (rsOk_of a f b)).2 ?_
    refine ev_if rfl ?_
    refine ev_succ ?_
    simp only [laws_FnReadersPlan.j8]
    refine ev_else (by rw [decide_eq_true_eq]; omega) ?_
    by_cases h : e.1 > 1
    · refine ev_if h ?_
      rw [w64 (x := e.1 - 1) (by omega) (by omega)]
      refine Ev.bind (rsPlan_yes u (e.1 - 1) rise (rsOk_of a (by omega) b)).2 ?_
      refine ev_if rfl ?_
      have := g2 h
      refine ev_else (by dsimp only; omega) ?_
      exact h9
    · refine ev_else h ?_
      exact h9
  · refine ev_else c ?_
    exact h9
theorem l1_ev (p f m : Int) (ok : rsOk p f m = true) (x25 x26 x27 x28 : Int) (x29 : Bool) (x32 x33 x34 : Int) (x35 : List Int) (x36 : Bool) (x39 x43 : Int) (x44 : List (List Int)) (x45 : List Int) (x46 : Int) (x47 : Bool) (h7 : Ev (fun k => laws_FnReadersPlan.j7 k x25 x26 x27 x28 x29 x32 x33 x34 x35 x36 x39 x43 x44 x45 x46 x47) true) : Ev (fun k => laws_FnReadersPlan.l1 k f m (rsP p f m) x25 x26 x27 x28 x29 x32 x33 x34 x35 x36 x39 x43 x44 x45 x46 x47 (rsP p f m) ((rsP p f m).length : Int) 0) true := by
  obtain ⟨hp, hf, hm⟩ := rsOk_is ok
  have key : ∀ (t : Nat) (L : Int) (i : Nat) (pre : List Int), rsP p f m = pre ++ rsL m t L (f + (i : Int) * m) → pre.length = i → 0 ≤ L → L ≤ t → L ≤ 2000 → i + t ≤ 4000 → Ev (fun k => laws_FnReadersPlan.l1 k f m (rsP p f m) x25 x26 x27 x28 x29 x32 x33 x34 x35 x36 x39 x43 x44 x45 x46 x47 (rsP p f m) ((rsP p f m).length : Int) (i : Int)) true := by
    intro t
    induction t with
    | zero =>
      intro L i pre hW hi h0 h1 h3 h4
      have hl : (rsP p f m).length = i := by rw [hW, ← hi]; simp [rsL]
      refine ev_succ ?_
      simp only [laws_FnReadersPlan.l1]
      refine ev_else (by omega) ?_
      exact h7
    | succ t ih =>
      intro L i pre hW hi h0 h1 h3 h4
      rw [rsL] at hW
      have b1 : 0 ≤ (i : Int) * m := Int.mul_nonneg (by omega) hm.1
      have b2 : (i : Int) * m ≤ 4000 * 200 := Int.mul_le_mul (by omega) hm.2 hm.1 (by omega)
      by_cases c : 0 < L
      · rw [if_pos c] at hW
        have hq := mn_bd (f := f + (i : Int) * m) (L := L) (by omega) c
        have hF : f + ((i + 1 : Nat) : Int) * m = f + (i : Int) * m + m := by
          rw [Int.natCast_add, Int.add_mul, Int.natCast_one, Int.one_mul]
          omega
        have hR := rs_nil m t (L - mn (f + (i : Int) * m) L) (f + (i : Int) * m + m)
        generalize hFF : f + (i : Int) * m = F at *
        generalize hx : mn F L = x at *
        have hl : (rsP p f m).length = i + 1 + (rsL m t (L - x) (F + m)).length := by
          rw [hW, List.length_append, List.length_cons]
          omega
        have hr : rd (rsP p f m) (i : Int) = x := by rw [hW, ← hi]; exact rd_mid _ _ _
        have hn1 := ih (L - x) (i + 1) (pre ++ [x]) (by rw [hF, hW, List.append_assoc]; rfl) (by rw [List.length_append, hi]; rfl) (by omega) (by omega) (by omega) (by omega)
        have hlen := rs_len m t (L - x) (F + m)
        refine ev_succ ?_
        simp only [laws_FnReadersPlan.l1]
        rw [hr, w64 (x := (i : Int) * m) (by omega) (by omega), hFF, w64 (x := F) (by omega) (by omega), w64 (x := ((rsP p f m).length : Int) - 1) (by omega) (by omega), w64s (show i < 4611686018427387904 by omega)]
        refine ev_if (by omega) (ev_if (by omega) (ev_if (by omega) ?_))
        by_cases g : (i : Int) < ((rsP p f m).length : Int) - 1
        · refine ev_if g ?_
          have hxF : x = F := by
            refine hq.2.2.2 ?_
            rcases (show L - x ≤ 0 ∨ 0 < L - x from by omega) with z | z
            · have := hR z
              rw [this] at hl
              simp only [List.length_nil] at hl
              omega
            · exact z
          refine ev_if hxF (ev_else (by omega) (ev_else (by omega) ?_))
          exact hn1
        · refine ev_else g (ev_else (by omega) (ev_else (by omega) ?_))
          exact hn1
      · rw [if_neg c] at hW
        have hl : (rsP p f m).length = i := by rw [hW, ← hi]; simp
        refine ev_succ ?_
        simp only [laws_FnReadersPlan.l1]
        refine ev_else (by omega) ?_
        exact h7
  have e0 : f + ((0 : Nat) : Int) * m = f := by
    rw [Int.natCast_zero, Int.zero_mul, Int.add_zero]
  exact key p.toNat p 0 [] (by rw [e0]; rfl) rfl (by omega) (by omega) (by omega) (by omega)
theorem j4_ev (p f m : Int) (r : List Int) (b : Bool) (hr : b = true → rsOk p f m = true ∧ r = rsP p f m) (x25 x26 x27 x28 : Int) (x29 : Bool) (x32 x33 x34 : Int) (x35 : List Int) (x36 : Bool) (x39 x43 : Int) (x44 : List (List Int)) (x45 : List Int) (x46 : Int) (x47 : Bool) (h7 : Ev (fun k => laws_FnReadersPlan.j7 k x25 x26 x27 x28 x29 x32 x33 x34 x35 x36 x39 x43 x44 x45 x46 x47) true) : Ev (fun k => laws_FnReadersPlan.j4 k p f m r b x25 x26 x27 x28 x29 x32 x33 x34 x35 x36 x39 x43 x44 x45 x46 x47 false) true := by
  refine ev_succ ?_
  simp only [laws_FnReadersPlan.j4, Bool.false_eq_true, if_false]
  by_cases c : b = true
  · obtain ⟨ok, rfl⟩ := hr c
    obtain ⟨hp, hf, hm⟩ := rsOk_is ok
    have hmem := rs_mem m hm.1 p.toNat p f (by omega) (by omega)
    have hl := rs_len m p.toNat p f
    have hs := rs_sum m hm.1 p.toNat p f (by omega) (by omega) (by omega)
    have hpos := rs_pos m p.toNat p f (by omega) (by omega)
    have hll : (rsP p f m).length = (rsL m p.toNat p f).length := rfl
    refine ev_if c ?_
    refine Ev.bind (xSum_ev (rsP p f m) (fun x hx => by have := hmem x hx; omega) (by omega)) ?_
    refine ev_if hs ?_
    refine ev_succ ?_
    simp only [laws_FnReadersPlan.j5]
    refine ev_else (by rw [decide_eq_true_eq]; omega) ?_
    exact l1_ev p f m ok x25 x26 x27 x28 x29 x32 x33 x34 x35 x36 x39 x43 x44 x45 x46 x47 h7
  · refine ev_else c ?_
    exact h7
theorem ne_self (b : Bool) : ¬ (b != b) = true := by simp
theorem plan_rs (p f m : Int) : ∃ r : List Int × Bool, Ev (fun k => spec_RisingPlan.f k p f m) r ∧ Ev (fun k => impl_RisingPlan.f k p f m) r ∧ r.1.length ≤ 2000 ∧ (r.2 = true → rsOk p f m = true ∧ r.1 = rsP p f m) := by
  by_cases h : rsOk p f m = true
  · obtain ⟨e1, e2⟩ := rsPlan_yes p f m h
    obtain ⟨hp, _⟩ := rsOk_is h
    have hl := rs_len m p.toNat p f
    exact ⟨_, e1, e2, by simp only [rsP]; omega, fun _ => ⟨h, rfl⟩⟩
  · obtain ⟨e1, e2⟩ := rsPlan_no p f m h
    exact ⟨_, e1, e2, by simp, fun h => by cases h⟩
theorem j3_ev {l : List Int} (hb : isBytes l) : Ev (fun k => laws_FnReadersPlan.j3 k l) true := by
  obtain ⟨p, f, m, d1⟩ := drawRising_ok hb
  obtain ⟨u, most, rise, d2⟩ := drawFirst_ok hb
  obtain ⟨v, num, den, d3⟩ := drawPart_ok hb
  obtain ⟨⟨left, fr, ad⟩, d4, dl1, dl2⟩ := drawAfter_ok hb
  obtain ⟨⟨r, b1⟩, e1, e2, e3, e4⟩ := plan_rs p f m
  obtain ⟨⟨x, b2⟩, f1, f2, f3⟩ := first_ev u most rise
  obtain ⟨⟨w, b3⟩, g1, g2, g3, g4, g5⟩ := parts_ev v num den
  obtain ⟨⟨W, b4⟩, h1, h2, h3⟩ := after_ev left fr ad (by dsimp only at dl1; omega) (by dsimp only at dl2; omega)
  have gd : Ev (fun k => impl_DaysOfParts.f k v num den) ((w.length : Int), b3) := by
    simp only [impl_DaysOfParts.f]
    exact Ev.bind g2 (Ev.now _)
  dsimp only at e3 e4 g3 g4 g5 h3
  refine ev_succ ?_
  simp only [laws_FnReadersPlan.j3]
  refine ev_some d1 ?_
  refine Ev.bind e2 (Ev.bind e1 ?_)
  refine ev_some d2 ?_
  refine Ev.bind f2 (Ev.bind f1 ?_)
  refine ev_some d3 ?_
  refine Ev.bind g2 (Ev.bind g1 (Ev.bind gd (Ev.bind g3 ?_)))
  refine Ev.bind d4 (Ev.bind h2 (Ev.bind h1 ?_))
  dsimp only
  refine ev_else (ne_self _) (Ev.bind (xSame_ev r (by omega)) (ev_if rfl ?_))
  refine ev_else (ne_self _) (ev_if rfl ?_)
  refine ev_else (ne_self _) (Ev.bind (xSame_ev w (by omega)) (ev_if rfl ?_))
  refine ev_else (ne_self _) (ev_if rfl ?_)
  refine ev_else (ne_self _) (ev_if rfl ?_)
  rw [bne_self_eq_false]
  have h12 := j12_ev left fr ad W b4 h3
  have h9 := j9_ev v num den w b3 g5 left fr ad W b4 h12
  have h7 := j7_ev u most rise (x, b2) f3 v num den w b3 (w.length : Int) left fr ad W b4 h9
  exact j4_ev p f m r b1 e4 u most rise x b2 v num den w b3 (w.length : Int) left fr ad W b4 h7
theorem spec_l1Most_eq (y : Int) : spec_l1Most.f 1 y = some (mx 1 y) := by
  unfold spec_l1Most.f mx
  by_cases c : (1 : Int) > y
  · rw [if_pos c, if_neg (by omega)]
  · rw [if_neg c]
    by_cases d : (1 : Int) < y
    · rw [if_pos d]
    · rw [if_neg d]
      congr 1
      omega
/-- The first day of the even plan. -/
def day0 (p m D : Int) : Int := today ((p - m) / D) ((p - m) % D) 0
theorem daily_ev (p m D : Int) : ∃ e : Int × Bool, spec_DailyFor.f p m D = some e ∧ impl_DailyFor.f p m D = some e ∧ (e.2 = true → mkOk p m D = true ∧ e.1 = mx 1 (day0 p m D)) ∧ (mkOk p m D = true → ¬ e.2 = true → 200 < day0 p m D) := by
  simp only [spec_DailyFor.f, impl_DailyFor.f, spec_rdPlan_eq, impl_isMarked_eq, Option.bind_some]
  by_cases h : mkOk p m D = true
  · obtain ⟨a, b, c⟩ := mkOk_is h
    have h1 := Int.mul_ediv_add_emod (p - m) D
    have h2 := Int.emod_nonneg (p - m) (show D ≠ 0 by omega)
    have h3 := Int.emod_lt_of_pos (p - m) (show 0 < D by omega)
    have h4 := Int.ediv_nonneg (show 0 ≤ p - m by omega) (show 0 ≤ D by omega)
    have hr := rest_div ((p - m) / D) ((p - m) % D) D 0 ⟨h2, h3⟩ (by omega)
    have e0 : rest ((p - m) / D) ((p - m) % D) D 0 = p - m := by
      unfold rest
      rw [Int.mul_comm] at h1
      simp only [Int.sub_zero]
      split <;> omega
    rw [e0, Int.sub_zero] at hr
    have hd : Int.tdiv (p - m + D - 1) D = day0 p m D := by
      rw [Int.tdiv_eq_ediv_of_nonneg (by omega), hr]
      rfl
    have hle : 0 ≤ day0 p m D ∧ day0 p m D ≤ 5000 := by
      rw [← hd, Int.tdiv_eq_ediv_of_nonneg (by omega)]
      exact ⟨Int.ediv_nonneg (by omega) (by omega), by have := Int.ediv_le_self D (show 0 ≤ p - m + D - 1 by omega); omega⟩
    simp only [h, if_true]
    rw [if_neg (show ¬ D = 0 by omega), if_neg (show ¬ D = 0 by omega), w64 (x := p - m) (by omega) (by omega), w64 (x := p - m + D) (by omega) (by omega), w64 (x := p - m + D - 1) (by omega) (by omega), hd, w64 (x := day0 p m D) (by omega) (by omega), spec_l1Most_eq, Option.bind_some]
    by_cases g : mx 1 (day0 p m D) > 200
    · rw [if_pos g]
      refine ⟨(0, false), rfl, rfl, fun h => (by cases h), fun _ _ => ?_⟩
      unfold mx at g
      split at g <;> omega
    · rw [if_neg g]
      exact ⟨_, rfl, rfl, fun _ => ⟨trivial, rfl⟩, fun _ hn => absurd rfl hn⟩
  · simp only [h, Bool.false_eq_true, if_false]
    exact ⟨_, rfl, rfl, fun h => (by cases h), fun h => absurd h (by simp)⟩
theorem evP_len (p m D : Int) (h : mkOk p m D = true) : ((evP p m D).length : Int) = D := by
  obtain ⟨a, b, c⟩ := mkOk_is h
  unfold evP
  rw [evL_len]
  omega
theorem evP_rd (p m D : Int) (h : mkOk p m D = true) (i : Int) (h0 : 0 ≤ i) (h1 : i < D) : rd (evP p m D) i = today ((p - m) / D) ((p - m) % D) i := by
  obtain ⟨n, rfl⟩ := Int.eq_ofNat_of_zero_le h0
  have hl : n < (evP p m D).length := by have := evP_len p m D h; omega
  rw [rd_nat _ n hl]
  have := evL_get ((p - m) / D) ((p - m) % D) 0 D.toNat n (by omega)
  rw [Nat.zero_add] at this
  exact this
theorem l0_ev {l : List Int} (hb : isBytes l) (p m D : Int) (ok : mkOk p m D = true) (e : Int × Bool) (h1 : e.2 = true → e.1 = mx 1 (day0 p m D)) (h2 : ¬ e.2 = true → 200 < day0 p m D) : Ev (fun k => laws_FnReadersPlan.l0 k l (evP p m D) e.1 e.2 (evP p m D) ((evP p m D).length : Int) 0) true := by
  obtain ⟨a, b, c⟩ := mkOk_is ok
  have hlen := evP_len p m D ok
  have hq := Int.ediv_nonneg (show 0 ≤ p - m by omega) (show 0 ≤ D by omega)
  have hq2 := Int.ediv_le_self D (show 0 ≤ p - m by omega)
  have r0 : rd (evP p m D) 0 = day0 p m D := evP_rd p m D ok 0 (by omega) (by omega)
  have h3 := j3_ev hb
  have key : ∀ (d i : Nat), (i : Int) + d = D → Ev (fun k => laws_FnReadersPlan.l0 k l (evP p m D) e.1 e.2 (evP p m D) ((evP p m D).length : Int) (i : Int)) true := by
    intro d
    induction d with
    | zero =>
      intro i h
      refine ev_succ ?_
      simp only [laws_FnReadersPlan.l0, r0]
      refine ev_else (by omega) ?_
      by_cases g : e.2 = true
      · have hm := h1 g
        refine ev_if g (ev_if (by omega) ?_)
        rw [hm]
        unfold mx
        by_cases z : 1 < day0 p m D
        · rw [if_pos z]
          refine ev_else (by omega) (ev_else (by omega) ?_)
          exact h3
        · rw [if_neg z]
          refine ev_else (by omega) ?_
          by_cases y : (1 : Int) > day0 p m D
          · refine ev_if y (ev_if rfl ?_)
            exact h3
          · refine ev_else y ?_
            exact h3
      · have hm := h2 g
        refine ev_else g (ev_if (by omega) (ev_else (by omega) ?_))
        exact h3
    | succ d ih =>
      intro i h
      have ri := evP_rd p m D ok (i : Int) (by omega) (by omega)
      have t1 : 0 ≤ today ((p - m) / D) ((p - m) % D) (i : Int) ∧ today ((p - m) / D) ((p - m) % D) (i : Int) ≤ day0 p m D ∧ day0 p m D - today ((p - m) / D) ((p - m) % D) (i : Int) ≤ 1 ∧ day0 p m D ≤ 5000 := by
        unfold day0 today
        split <;> split <;> omega
      refine ev_succ ?_
      simp only [laws_FnReadersPlan.l0, r0, ri]
      refine ev_if (by omega) (ev_if (by omega) (ev_if (by omega) (ev_else (by omega) (ev_if (by omega) (ev_else (by omega) ?_)))))
      rw [w64 (x := day0 p m D - today ((p - m) / D) ((p - m) % D) (i : Int)) (by omega) (by omega), w64s (show i < 4611686018427387904 by omega)]
      refine ev_else (by omega) ?_
      by_cases z : (i : Int) > 0
      · have rp := evP_rd p m D ok ((i : Int) - 1) (by omega) (by omega)
        have t2 : today ((p - m) / D) ((p - m) % D) (i : Int) ≤ today ((p - m) / D) ((p - m) % D) ((i : Int) - 1) := by
          unfold today
          split <;> split <;> omega
        refine ev_if z ?_
        rw [w64 (x := (i : Int) - 1) (by omega) (by omega), rp]
        refine ev_if (by omega) (ev_if (by omega) (ev_else (by omega) ?_))
        exact ih (i + 1) (by omega)
      · refine ev_else z ?_
        exact ih (i + 1) (by omega)
  exact key D.toNat 0 (by omega)
theorem isBytes_of {l : List Int} (h : l.length ≤ 1048576) (hw : ∀ x ∈ l, (Lit.int .u8 x).wf = true) : isBytes l := by
  refine ⟨fun x hx => ?_, h⟩
  have := hw x hx
  simp only [Lit.wf, Bool.and_eq_true, decide_eq_true_eq] at this
  rw [show IntKind.u8.min = 0 from rfl, show IntKind.u8.max = 255 from rfl] at this
  omega
theorem FnReadersPlan : ∀ (l0 : List Int) (l1 : List Int), l0.length ≤ maxLen → l0.length * 1 ≤ 140737488351232 → (∀ x ∈ l0, (Lit.int .u8 x).wf = true) → l1.length ≤ maxLen → l1.length * 1 ≤ 140737488351232 → (∀ x ∈ l1, (Lit.int .u8 x).wf = true) → ∃ k, laws_FnReadersPlan.f k l0 l1 = some true := by
  intro l0 l1 _ z0 w0 _ z1 w1
  refine Ev.rounds (r := true) ?_
  simp only [laws_FnReadersPlan.f, laws_big.f]
  by_cases c0 : (l0.length : Int) > 1048576
  · simp only [c0, if_true, Option.bind_some]
    exact Ev.now _
  simp only [c0, if_false, Option.bind_some]
  rw [w64 (x := 1048576 - (l0.length : Int)) (by omega) (by omega)]
  by_cases c1 : (l1.length : Int) > 1048576 - (l0.length : Int)
  · refine ev_if (decide_eq_true c1) ?_
    exact Ev.now _
  refine ev_else (by rw [decide_eq_true_eq]; exact c1) ?_
  have b0 := isBytes_of (by omega) w0
  have b1 := isBytes_of (by omega) w1
  obtain ⟨p, m, D, d0⟩ := drawEven_ok b0
  obtain ⟨e, s1, s2, s3, s4⟩ := daily_ev p m D
  have h3 := j3_ev b1
  refine ev_some d0 ?_
  dsimp only
  by_cases ok : mkOk p m D = true
  · obtain ⟨a1, a2⟩ := even_yes p m D ok
    obtain ⟨hp, hm, hD⟩ := mkOk_is ok
    have hlen := evP_len p m D ok
    refine Ev.bind a2 (Ev.bind a1 (ev_some s2 (ev_some s1 ?_)))
    dsimp only
    refine ev_else (ne_self _) (Ev.bind (xSame_ev _ (by omega)) (ev_if rfl ?_))
    refine ev_else (ne_self _) (ev_if rfl ?_)
    have hq := Int.ediv_nonneg (show 0 ≤ p - m by omega) (show 0 ≤ D by omega)
    have hq2 := Int.ediv_le_self D (show 0 ≤ p - m by omega)
    have fin : Ev (fun k => laws_FnReadersPlan.j0 k l1 p m D (evP p m D) true e.1 e.2 false) true := by
      refine ev_succ ?_
      simp only [laws_FnReadersPlan.j0, Bool.false_eq_true, if_false, if_true]
      refine ev_if hlen ?_
      refine Ev.bind (xSum_ev (evP p m D) (fun x hx => ?_) (by omega)) ?_
      · obtain ⟨i, hi, rfl⟩ := List.getElem_of_mem hx
        have := evP_rd p m D ok (i : Int) (by omega) (by omega)
        rw [rd_nat _ i hi] at this
        rw [this]
        have h5 := rest_bd ((p - m) / D) ((p - m) % D) D (i : Int) 2000 hq ⟨Int.emod_nonneg _ (by omega), Int.emod_lt_of_pos _ (by omega)⟩ (by omega) (by have := Int.mul_ediv_add_emod (p - m) D; rw [Int.mul_comm] at this; omega)
        have h6 := today_le ((p - m) / D) ((p - m) % D) D (i : Int) ⟨Int.emod_nonneg _ (by omega), Int.emod_lt_of_pos _ (by omega)⟩ (by omega) hq
        omega
      · rw [evP_sum p m D ok, w64 (x := p - m) (by omega) (by omega), bne_self_eq_false]
        refine ev_succ ?_
        simp only [laws_FnReadersPlan.j1, Bool.false_eq_true, if_false]
        exact l0_ev b1 p m D ok e (fun h => (s3 h).2) (s4 ok)
    by_cases g : e.2 = true
    · refine ev_if g ?_
      rw [Bool.not_true]
      exact fin
    · refine ev_else g ?_
      exact fin
  · obtain ⟨a1, a2⟩ := even_no p m D ok
    refine Ev.bind a2 (Ev.bind a1 (ev_some s2 (ev_some s1 ?_)))
    dsimp only
    refine ev_else (ne_self _) (Ev.bind (xSame_ev _ (by simp)) (ev_if rfl ?_))
    refine ev_else (ne_self _) (ev_if rfl ?_)
    have g : ¬ e.2 = true := fun h => ok (s3 h).1
    refine ev_else g (ev_succ ?_)
    simp only [laws_FnReadersPlan.j0, Bool.false_eq_true, if_false]
    exact h3

end Go.Proofs.Ytllakpmepfeinaa.Pure
