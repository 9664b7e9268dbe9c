/- The plain law behind FnExactNumberOfRoman, in lists and numbers alone: the program's and the reference's numbers of Roman texts are one. No condition beyond the printed bounds. -/
import Derived.Test.YtdjkmpkgkglidaaXFnExactNumberOfRomanx1
set_option linter.unusedVariables false
set_option linter.unusedSimpArgs false
namespace Go.Proofs.Ytdjkmpkgkglidaa.Pure
open Go.RowKit Go.Proofs.Ytdjkmpkgkglidaa.XFnExactNumberOfRoman Go.Proofs.YtdjkmpkgkglidaaW.PrintWords Go.Proofs.YtdjkmpkgkglidaaW.PrintLast Go.Proofs.YtdjkmpkgkglidaaW.PrintMore
/-! ### Small words: rounds, reads, sums without a wrap. -/
theorem ev_some {α β : Type} {g : Option α} {f : Nat → α → Option β} {a : α} {r : β} (h : g = some a) (k : Ev (fun n => f n a) r) : Ev (fun n => g.bind (f n)) r := by
  subst h
  exact k
theorem ev_ret {α : Type} {r s : α} (h : r = s) : Ev (fun _ => some r) s := by
  subst h
  exact Ev.now r
theorem ev_map {α β : Type} {g : Nat → Option α} {f : α → β} {a : α} {r : β} (h : Ev g a) (e : f a = r) : Ev (fun n => (g n).bind fun t => some (f t)) r := Ev.bind h (ev_ret e)
theorem ev_eq {α : Type} {g f : Nat → Option α} {r : α} (h : g = f) (k : Ev f r) : Ev g r := by
  rw [h]
  exact k
theorem w64 {x : Int} (h0 : -9223372036854775808 ≤ x) (h1 : x ≤ 9223372036854775807) : wrap64 x = x := by
  unfold wrap64
  omega
theorem w64s {i : Nat} (h : i < 4611686018427387904) : wrap64 ((i : Int) + 1) = ((i + 1 : Nat) : Int) := by
  rw [w64 (by omega) (by omega)]
  rfl
theorem rd_nat (l : List Int) (i : Nat) (h : i < l.length) : rd l (i : Int) = l[i] := by
  unfold rd
  rw [Int.toNat_natCast, List.getD_eq_getElem?_getD, List.getElem?_eq_getElem h]
  rfl
theorem wf_i64 {x : Int} (h : (Lit.int .i64 x).wf = true) : -9223372036854775808 ≤ x ∧ x ≤ 9223372036854775807 := by
  simp only [Lit.wf, Bool.and_eq_true, decide_eq_true_eq] at h
  exact h
theorem ev_succ {α : Type} {g : Nat → Option α} {r : α} (h : Ev (fun k => g (k + 1)) r) : Ev g r := Ev.step (fun _ => rfl) h
theorem neg_no (n : Nat) : ¬ (1 + (n : Int) < 0) := by omega
theorem ev_if {α : Type} {c : Prop} [Decidable c] {g f : Nat → Option α} {r : α} (h : c) (k : Ev g r) : Ev (fun n => if c then g n else f n) r := Ev.congr (fun _ => if_pos h) k
theorem ev_else {α : Type} {c : Prop} [Decidable c] {g f : Nat → Option α} {r : α} (h : ¬ c) (k : Ev f r) : Ev (fun n => if c then g n else f n) r := Ev.congr (fun _ => if_neg h) k

theorem impl_within_eq (x lo hi : Int) : impl_within.f x lo hi = some (decide (lo ≤ x ∧ x ≤ hi)) := by
  unfold impl_within.f
  by_cases c : x ≥ lo
  · rw [if_pos c]
    congr 1
    simp only [c, true_and]
  · rw [if_neg c]
    congr 1
    exact (decide_eq_false (fun h => c h.1)).symm

def rep (one : ByteArray) (c : Nat) : ByteArray := ⟨(Lib.repeatL one.data.toList c).toArray⟩
theorem rep_zero (one : ByteArray) : rep one 0 = ⟨#[]⟩ := rfl
theorem rep_succ (one : ByteArray) (c : Nat) : rep one (c + 1) = one ++ rep one c := by
  apply ByteArray.ext
  rw [ByteArray.data_append]
  simp [rep, Lib.repeatL]
theorem app_none (a : ByteArray) : a ++ (⟨#[]⟩ : ByteArray) = a := by
  apply ByteArray.ext
  rw [ByteArray.data_append]
  simp
theorem none_app (a : ByteArray) : (⟨#[]⟩ : ByteArray) ++ a = a := by
  apply ByteArray.ext
  rw [ByteArray.data_append]
  simp
theorem app_app (a b c : ByteArray) : a ++ b ++ c = a ++ (b ++ c) := by
  apply ByteArray.ext
  simp only [ByteArray.data_append, Array.append_assoc]
theorem rep_size (one : ByteArray) (h : one.size ≤ 1) : ∀ c, (rep one c).size ≤ c
  | 0 => Nat.le_refl 0
  | c + 1 => by
    have := rep_size one h c
    rw [rep_succ, ByteArray.size_append]
    omega
theorem loop_ev (one : ByteArray) (h1 : one.size ≤ 1) : ∀ (c : Nat) (acc : ByteArray), c ≤ 10 → acc.size + c ≤ 1000 → Ev (fun k => spec_caPart.l0 k (c : Int) one acc) (acc ++ rep one c)
  | 0, acc, _, _ => by
    refine ev_succ ?_
    simp only [spec_caPart.l0]
    refine ev_else (by omega) ?_
    rw [rep_zero, app_none]
    exact Ev.now _
  | c + 1, acc, hc, ha => by
    refine ev_succ ?_
    simp only [spec_caPart.l0]
    refine ev_if (by omega) (ev_if (by omega) ?_)
    rw [show ((c + 1 : Nat) : Int) - 1 = (c : Int) by omega, w64 (by omega) (by omega), rep_succ, ← app_app]
    exact loop_ev one h1 c (acc ++ one) (by omega) (by rw [ByteArray.size_append]; omega)
theorem repeat_eq (one : ByteArray) (h1 : one.size ≤ 1) (n : Nat) (hn : n ≤ 10) : strings_Repeat.f one (n : Int) = some (rep one n) := by
  unfold strings_Repeat.f
  rw [if_pos (by omega), Int.toNat_natCast]
  rfl
theorem digit (n : Nat) (hn : n ≤ 9) (one five ten : ByteArray) (h1 : one.size ≤ 1) (h5 : five.size ≤ 1) (h10 : ten.size ≤ 1) : ∃ r, Ev (fun k => spec_caPart.f k (n : Int) one five ten) r ∧ impl_digitOf.f (n : Int) one five ten = some r ∧ r.size ≤ 20 := by
  by_cases c4 : n = 4
  · subst c4
    refine ⟨one ++ five, ?_, ?_, by rw [ByteArray.size_append]; omega⟩
    · simp only [spec_caPart.f]
      refine ev_if (by omega) (ev_if (by omega) ?_)
      exact Ev.now _
    · unfold impl_digitOf.f
      rw [if_neg (by omega), if_neg (by omega), if_pos (by omega), if_pos (by omega)]
  · by_cases c9 : n = 9
    · subst c9
      refine ⟨one ++ ten, ?_, ?_, by rw [ByteArray.size_append]; omega⟩
      · simp only [spec_caPart.f]
        refine ev_else (by omega) (ev_if (by omega) (ev_if (by omega) ?_))
        exact Ev.now _
      · unfold impl_digitOf.f
        rw [if_pos (by omega), if_pos (by omega)]
    · by_cases c5 : 5 ≤ n
      · obtain ⟨m, rfl⟩ : ∃ m, n = m + 5 := ⟨n - 5, by omega⟩
        have hs := rep_size one h1 m
        have hw : ((m + 5 : Nat) : Int) - 5 = (m : Int) := by omega
        refine ⟨five ++ rep one m, ?_, ?_, by rw [ByteArray.size_append]; omega⟩
        · simp only [spec_caPart.f]
          refine ev_else (by omega) (ev_else (by omega) (ev_if (by omega) ?_))
          rw [hw, w64 (by omega) (by omega)]
          refine ev_succ ?_
          simp only [spec_caPart.j0]
          exact loop_ev one h1 m five (by omega) (by omega)
        · unfold impl_digitOf.f
          rw [if_neg (by omega), if_pos (by omega), hw, w64 (by omega) (by omega), repeat_eq one h1 m (by omega), Option.bind_some, if_pos (by omega)]
      · have hs := rep_size one h1 n
        refine ⟨rep one n, ?_, ?_, by omega⟩
        · simp only [spec_caPart.f]
          refine ev_else (by omega) (ev_else (by omega) (ev_else (by omega) ?_))
          refine ev_succ ?_
          simp only [spec_caPart.j0]
          have := loop_ev one h1 n (⟨#[]⟩ : ByteArray) (by omega) (by show 0 + n ≤ 1000; omega)
          rw [none_app] at this
          exact this
        · unfold impl_digitOf.f
          rw [if_neg (by omega), if_neg (by omega), if_neg (by omega), repeat_eq one h1 n (by omega), Option.bind_some]
theorem roman (n : Nat) (hn : 1 ≤ n ∧ n ≤ 399) : ∃ r, Ev (fun k => spec_caRoman.f k (n : Int)) r ∧ impl_roman.f (n : Int) = some r := by
  have d0 : ((n / 100 : Nat) : Int) = Int.tdiv (n : Int) 100 := by rw [Int.tdiv_eq_ediv_of_nonneg (by omega)]; omega
  have d1 : ((n / 10 % 10 : Nat) : Int) = Int.tmod (Int.tdiv (n : Int) 10) 10 := by rw [Int.tdiv_eq_ediv_of_nonneg (by omega), Int.tmod_eq_emod_of_nonneg (by omega)]; omega
  have d2 : ((n % 10 : Nat) : Int) = Int.tmod (n : Int) 10 := by rw [Int.tmod_eq_emod_of_nonneg (by omega)]; omega
  have b0 : 0 ≤ Int.tdiv (n : Int) 100 ∧ Int.tdiv (n : Int) 100 ≤ 3 := by omega
  have b1 : 0 ≤ Int.tdiv (n : Int) 10 ∧ Int.tdiv (n : Int) 10 ≤ 39 := by rw [Int.tdiv_eq_ediv_of_nonneg (by omega)]; omega
  obtain ⟨x, x1, x2, x3⟩ := digit (n / 100) (by omega) ⟨#[99]⟩ ⟨#[100]⟩ ⟨#[]⟩ (by decide) (by decide) (by decide)
  obtain ⟨y, y1, y2, y3⟩ := digit (n / 10 % 10) (by omega) ⟨#[120]⟩ ⟨#[108]⟩ ⟨#[99]⟩ (by decide) (by decide) (by decide)
  obtain ⟨z, z1, z2, z3⟩ := digit (n % 10) (by omega) ⟨#[105]⟩ ⟨#[118]⟩ ⟨#[120]⟩ (by decide) (by decide) (by decide)
  have hx : strings_Repeat.f (⟨#[99]⟩ : ByteArray) ((n / 100 : Nat) : Int) = some x := by
    unfold impl_digitOf.f at x2
    rw [if_neg (by omega), if_neg (by omega), if_neg (by omega), repeat_eq _ (by decide) _ (by omega), Option.bind_some] at x2
    rw [repeat_eq _ (by decide) _ (by omega)]
    exact x2
  rw [d0] at x1 hx
  rw [d1] at y1 y2
  rw [d2] at z1 z2
  refine ⟨x ++ y ++ z, ?_, ?_⟩
  · simp only [spec_caRoman.f]
    rw [w64 (x := Int.tdiv (n : Int) 100) (by omega) (by omega), w64 (x := Int.tdiv (n : Int) 10) (by omega) (by omega)]
    refine Ev.bind x1 ?_
    refine Ev.bind y1 ?_
    refine ev_if (by omega) ?_
    refine Ev.bind z1 ?_
    refine ev_if (by rw [ByteArray.size_append]; omega) ?_
    exact Ev.now _
  · unfold impl_roman.f
    rw [w64 (x := Int.tdiv (n : Int) 100) (by omega) (by omega), w64 (x := Int.tdiv (n : Int) 10) (by omega) (by omega), hx, Option.bind_some, y2, Option.bind_some, if_pos (by omega), z2, Option.bind_some, if_pos (by rw [ByteArray.size_append]; omega)]

theorem same (s : ByteArray) : ∃ r, Ev (fun k => spec_NumberOfRoman.f k s) r ∧ Ev (fun k => impl_NumberOfRoman.f k s) r := by
  have key : ∀ (d n : Nat), n + d = 400 → 1 ≤ n → ∃ r, Ev (fun k => spec_NumberOfRoman.l0 k s (n : Int)) r ∧ Ev (fun k => impl_NumberOfRoman.l0 k s (n : Int)) r := by
    intro d
    induction d with
    | zero =>
      intro n h h1
      refine ⟨(0, false), ev_succ ?_, ev_succ ?_⟩
      · simp only [spec_NumberOfRoman.l0]
        refine ev_else (by omega) ?_
        exact Ev.now _
      · simp only [impl_NumberOfRoman.l0, impl_isRoman.f, impl_within_eq, Option.bind_some]
        rw [decide_eq_false (show ¬ (1 ≤ (n : Int) ∧ (n : Int) ≤ 399) by omega)]
        simp only [Bool.false_eq_true, if_false]
        exact Ev.now _
    | succ d ih =>
      intro n h h1
      obtain ⟨x, x1, x2⟩ := roman n (by omega)
      obtain ⟨r, r1, r2⟩ := ih (n + 1) (by omega) (by omega)
      by_cases c : x.toList = s.toList
      · refine ⟨((n : Int), true), ev_succ ?_, ev_succ ?_⟩
        · simp only [spec_NumberOfRoman.l0]
          refine ev_if (by omega) ?_
          refine Ev.bind x1 ?_
          refine ev_if c ?_
          exact Ev.now _
        · simp only [impl_NumberOfRoman.l0, impl_isRoman.f, impl_within_eq, Option.bind_some, x2]
          rw [decide_eq_true (show 1 ≤ (n : Int) ∧ (n : Int) ≤ 399 by omega)]
          simp only [if_true]
          refine ev_if c ?_
          exact Ev.now _
      · refine ⟨r, ev_succ ?_, ev_succ ?_⟩
        · simp only [spec_NumberOfRoman.l0]
          refine ev_if (by omega) ?_
          refine Ev.bind x1 ?_
          refine ev_else c ?_
          rw [w64s (by omega)]
          exact r1
        · simp only [impl_NumberOfRoman.l0, impl_isRoman.f, impl_within_eq, Option.bind_some, x2]
          rw [decide_eq_true (show 1 ≤ (n : Int) ∧ (n : Int) ≤ 399 by omega)]
          simp only [if_true]
          refine ev_else c ?_
          rw [w64s (by omega)]
          exact r2
  exact key 399 1 (by omega) (by omega)
theorem FnExactNumberOfRoman : laws_FnExactNumberOfRoman.Pure := by
  intro s hs
  refine Ev.rounds (r := true) ?_
  simp only [laws_FnExactNumberOfRoman.f]
  by_cases c : (s.size : Int) > 1048576
  · refine ev_if c ?_
    exact Ev.now _
  · refine ev_else c ?_
    obtain ⟨r, h1, h2⟩ := same s
    refine Ev.bind h1 ?_
    refine Ev.bind h2 ?_
    simp only [if_true, bne_self_eq_false, Bool.false_eq_true, if_false]
    exact Ev.now _

end Go.Proofs.Ytdjkmpkgkglidaa.Pure
