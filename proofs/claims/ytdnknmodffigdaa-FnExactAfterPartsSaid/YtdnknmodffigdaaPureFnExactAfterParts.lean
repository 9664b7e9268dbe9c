/- The plain law behind FnExactAfterParts, in lists and numbers alone: the program's and the reference's pages ahead of the parts are one. No condition beyond the printed bounds. -/
import Derived.Test.YtdnknmodffigdaaXFnExactAfterPartsx5
set_option linter.unusedVariables false
set_option linter.unusedSimpArgs false
namespace Go.Proofs.Ytdnknmodffigdaa.Pure
open Go.RowKit Go.Proofs.Ytdnknmodffigdaa.XFnExactAfterParts Go.Proofs.YtdnknmodffigdaaW.PrintWords Go.Proofs.YtdnknmodffigdaaW.PrintLast Go.Proofs.YtdnknmodffigdaaW.PrintMore
/-! ### Small words: rounds, reads, sums without a wrap. -/
theorem ev_some {α β : Type} {g : Option α} {f : Nat → α → Option β} {a : α} {r : β} (h : g = some a) (k : Ev (fun n => f n a) r) : Ev (fun n => g.bind (f n)) r := by
  subst h
  exact k
theorem ev_ret {α : Type} {r s : α} (h : r = s) : Ev (fun _ => some r) s := by
  subst h
  exact Ev.now r
theorem ev_map {α β : Type} {g : Nat → Option α} {f : α → β} {a : α} {r : β} (h : Ev g a) (e : f a = r) : Ev (fun n => (g n).bind fun t => some (f t)) r := Ev.bind h (ev_ret e)
theorem ev_eq {α : Type} {g f : Nat → Option α} {r : α} (h : g = f) (k : Ev f r) : Ev g r := by
  rw [h]
  exact k
theorem w64 {x : Int} (h0 : -9223372036854775808 ≤ x) (h1 : x ≤ 9223372036854775807) : wrap64 x = x := by
  unfold wrap64
  omega
theorem w64s {i : Nat} (h : i < 4611686018427387904) : wrap64 ((i : Int) + 1) = ((i + 1 : Nat) : Int) := by
  rw [w64 (by omega) (by omega)]
  rfl
theorem rd_nat (l : List Int) (i : Nat) (h : i < l.length) : rd l (i : Int) = l[i] := by
  unfold rd
  rw [Int.toNat_natCast, List.getD_eq_getElem?_getD, List.getElem?_eq_getElem h]
  rfl
theorem wf_i64 {x : Int} (h : (Lit.int .i64 x).wf = true) : -9223372036854775808 ≤ x ∧ x ≤ 9223372036854775807 := by
  simp only [Lit.wf, Bool.and_eq_true, decide_eq_true_eq] at h
  exact h
theorem ev_succ {α : Type} {g : Nat → Option α} {r : α} (h : Ev (fun k => g (k + 1)) r) : Ev g r := Ev.step (fun _ => rfl) h
theorem neg_no (n : Nat) : ¬ (1 + (n : Int) < 0) := by omega
theorem ev_if {α : Type} {c : Prop} [Decidable c] {g f : Nat → Option α} {r : α} (h : c) (k : Ev g r) : Ev (fun n => if c then g n else f n) r := Ev.congr (fun _ => if_pos h) k
theorem ev_else {α : Type} {c : Prop} [Decidable c] {g f : Nat → Option α} {r : α} (h : ¬ c) (k : Ev f r) : Ev (fun n => if c then g n else f n) r := Ev.congr (fun _ => if_neg h) k

theorem set_app {α : Type} (a b : List α) (x y : α) (n : Nat) (h : n = a.length) : (a ++ x :: b).set n y = a ++ y :: b := by
  subst h
  simp

theorem laws_toIntS_ev (l : List Int) (hl : l.length ≤ 1048576) : Ev (fun k => laws_toIntS.f k l) l := by
  have key : ∀ (d i : Nat), i + d = l.length → Ev (fun k => laws_toIntS.l0 k l (l.take i ++ List.replicate d 0) (i : Int)) l := by
    intro d
    induction d with
    | zero =>
      intro i h
      refine ev_succ ?_
      simp only [laws_toIntS.l0]
      refine ev_else (by omega) ?_
      refine ev_ret ?_
      rw [List.take_of_length_le (by omega)]
      simp
    | succ d ih =>
      intro i h
      have hi' : i < l.length := by omega
      refine Ev.step (f := fun k => laws_toIntS.l0 k l (l.take (i + 1) ++ List.replicate d 0) ((i + 1 : Nat) : Int)) (fun k => ?_) (ih (i + 1) (by omega))
      simp only [laws_toIntS.l0]
      rw [if_pos (by omega), if_pos (by omega), if_pos (by simp; omega), rd_nat l i hi', w64s (by omega), Int.toNat_natCast, List.replicate_succ, set_app _ _ _ _ _ (by simp; omega), List.take_succ_eq_append_getElem hi']
      simp only [List.append_assoc, List.cons_append, List.nil_append]
  refine ev_eq (f := fun k => laws_toIntS.l0 k l (l.take 0 ++ List.replicate l.length 0) ((0 : Nat) : Int)) ?_ (key l.length 0 (by omega))
  funext k
  simp only [laws_toIntS.f]
  rw [if_pos (by omega), if_pos (by omega)]
  simp

theorem laws_eqIntS_ev (a b : List Int) (hl : a.length ≤ 4611686018427387903) : Ev (fun k => laws_eqIntS.f k a b) (decide (a = b)) := by
  by_cases hlen : a.length = b.length
  · have key : ∀ (d i : Nat), i + d = a.length → Ev (fun k => laws_eqIntS.l0 k a b (i : Int)) (decide (a.drop i = b.drop i)) := by
      intro d
      induction d with
      | zero =>
        intro i h
        rw [List.drop_eq_nil_of_le (by omega), List.drop_eq_nil_of_le (by omega)]
        refine ev_succ ?_
        simp only [laws_eqIntS.l0]
        refine ev_else (by omega) ?_
        exact ev_ret (by simp)
      | succ d ih =>
        intro i h
        have h1 : i < a.length := by omega
        have h2 : i < b.length := by omega
        rw [List.drop_eq_getElem_cons h1, List.drop_eq_getElem_cons h2]
        refine Ev.step (f := fun k => if a[i] = b[i] then laws_eqIntS.l0 k a b ((i + 1 : Nat) : Int) else some false) (fun k => by simp only [laws_eqIntS.l0]; rw [if_pos (by omega), if_pos (by omega), if_pos (by omega), rd_nat a i h1, rd_nat b i h2, w64s (by omega)]) ?_
        by_cases c : a[i] = b[i]
        · simp only [c, if_true, List.cons.injEq, true_and]
          exact ih (i + 1) (by omega)
        · simp only [c, if_false, List.cons.injEq, false_and, decide_false]
          exact Ev.now _
    refine ev_eq (f := fun k => laws_eqIntS.l0 k a b ((0 : Nat) : Int)) ?_ (key a.length 0 (by omega))
    funext k
    simp only [laws_eqIntS.f]
    rw [if_pos (by omega)]
    rfl
  · refine ev_eq (f := fun _ => some false) ?_ (ev_ret (by simp; intro h; exact hlen (by rw [h])))
    funext k
    simp only [laws_eqIntS.f]
    rw [if_neg (by omega)]

theorem rdL1_nat (l : List (List Int)) (i : Nat) (h : i < l.length) : rd_L1 l (i : Int) = l[i] := by
  unfold rd_L1
  rw [Int.toNat_natCast, List.getD_eq_getElem?_getD, List.getElem?_eq_getElem h]
  rfl
theorem laws_szIntSS_ev (l : List (List Int)) (hm : l.length ≤ maxLen) (hr : ∀ x ∈ l, x.length ≤ maxLen) : ∃ v, Ev (fun k => laws_szIntSS.f k l 1048576) v ∧ (v < 0 ∨ (l.length ≤ 1048576 ∧ ∀ x ∈ l, x.length ≤ 1048576)) := by
  unfold maxLen at hm hr
  have key : ∀ (d i : Nat) (a : Int), l.length ≤ 1048576 → i + d = l.length → 0 ≤ a → a ≤ 1048576 → ∃ v, Ev (fun k => laws_szIntSS.l0 k l a (i : Int)) v ∧ (v < 0 ∨ ∀ x ∈ l.drop i, x.length ≤ 1048576) := by
    intro d
    induction d with
    | zero =>
      intro i a hb h h0 h1
      refine ⟨a, ev_succ ?_, Or.inr (by rw [List.drop_eq_nil_of_le (by omega)]; simp)⟩
      simp only [laws_szIntSS.l0]
      refine ev_else (by omega) ?_
      exact Ev.now _
    | succ d ih =>
      intro i a hb h h0 h1
      have hi : i < l.length := by omega
      have hx := hr l[i] (List.getElem_mem hi)
      by_cases c : a - (l[i].length : Int) < 0
      · refine ⟨-1, ev_succ ?_, Or.inl (by omega)⟩
        simp only [laws_szIntSS.l0, rdL1_nat l i hi, laws_szIntS.f]
        rw [w64 (x := a - (l[i].length : Int)) (by omega) (by omega), if_pos c]
        refine ev_if (by omega) (ev_if (by omega) ?_)
        exact Ev.now _
      · obtain ⟨v, h2, h3⟩ := ih (i + 1) (a - (l[i].length : Int)) hb (by omega) (by omega) (by omega)
        refine ⟨v, ev_succ ?_, ?_⟩
        · simp only [laws_szIntSS.l0, rdL1_nat l i hi, laws_szIntS.f]
          rw [w64 (x := a - (l[i].length : Int)) (by omega) (by omega), if_neg c]
          refine ev_if (by omega) (ev_if (by omega) ?_)
          simp only [Option.bind_some]
          refine ev_else c ?_
          rw [w64s (by omega)]
          exact h2
        · rcases h3 with h3 | h3
          · exact Or.inl h3
          · refine Or.inr ?_
            rw [List.drop_eq_getElem_cons hi]
            intro x hx
            rcases List.mem_cons.1 hx with rfl | hx
            · omega
            · exact h3 x hx
  by_cases c : (1048576 : Int) - (l.length : Int) < 0
  · refine ⟨-1, ?_, Or.inl (by omega)⟩
    simp only [laws_szIntSS.f]
    rw [w64 (by omega) (by omega)]
    refine ev_if c ?_
    exact Ev.now _
  · obtain ⟨v, h1, h2⟩ := key l.length 0 (1048576 - (l.length : Int)) (by omega) (by omega) (by omega) (by omega)
    refine ⟨v, ?_, ?_⟩
    · simp only [laws_szIntSS.f]
      rw [w64 (by omega) (by omega)]
      refine ev_else c ?_
      exact h1
    · rcases h2 with h2 | h2
      · exact Or.inl h2
      · exact Or.inr ⟨by omega, h2⟩
theorem laws_toIntSS_ev (l : List (List Int)) (hl : l.length ≤ 1048576) (hr : ∀ x ∈ l, x.length ≤ 1048576) : Ev (fun k => laws_toIntSS.f k l) l := by
  have key : ∀ (d i : Nat), i + d = l.length → Ev (fun k => laws_toIntSS.l0 k l (l.take i ++ List.replicate d []) (i : Int)) l := by
    intro d
    induction d with
    | zero =>
      intro i h
      refine ev_succ ?_
      simp only [laws_toIntSS.l0]
      refine ev_else (by omega) ?_
      refine ev_ret ?_
      rw [List.take_of_length_le (by omega)]
      simp
    | succ d ih =>
      intro i h
      have hi' : i < l.length := by omega
      refine ev_succ ?_
      simp only [laws_toIntSS.l0, rdL1_nat l i hi']
      refine ev_if (by omega) (ev_if (by omega) ?_)
      refine Ev.bind (laws_toIntS_ev l[i] (hr _ (List.getElem_mem hi'))) ?_
      refine ev_if (by simp; omega) ?_
      rw [w64s (by omega), Int.toNat_natCast, List.replicate_succ, set_app _ _ _ _ _ (by simp; omega)]
      have := ih (i + 1) (by omega)
      rw [List.take_succ_eq_append_getElem hi'] at this
      simpa only [List.append_assoc, List.cons_append, List.nil_append] using this
  refine ev_eq (f := fun k => laws_toIntSS.l0 k l (l.take 0 ++ List.replicate l.length []) ((0 : Nat) : Int)) ?_ (key l.length 0 (by omega))
  funext k
  simp only [laws_toIntSS.f]
  rw [if_pos (by omega), if_pos (by omega)]
  simp
theorem laws_eqIntSS_ev (a : List (List Int)) (hl : a.length ≤ 1048576) (hr : ∀ x ∈ a, x.length ≤ 1048576) : Ev (fun k => laws_eqIntSS.f k a a) true := by
  have key : ∀ (d i : Nat), i + d = a.length → Ev (fun k => laws_eqIntSS.l0 k a a (i : Int)) true := by
    intro d
    induction d with
    | zero =>
      intro i h
      refine ev_succ ?_
      simp only [laws_eqIntSS.l0]
      refine ev_else (by omega) ?_
      exact Ev.now _
    | succ d ih =>
      intro i h
      have hi' : i < a.length := by omega
      refine ev_succ ?_
      simp only [laws_eqIntSS.l0, rdL1_nat a i hi']
      refine ev_if (by omega) (ev_if (by omega) (ev_if (by omega) ?_))
      refine Ev.bind (laws_eqIntS_ev a[i] a[i] (by have := hr a[i] (List.getElem_mem hi'); omega)) ?_
      simp only [decide_true, if_true]
      rw [w64s (by omega)]
      exact ih (i + 1) (by omega)
  simp only [laws_eqIntSS.f, if_true]
  exact key a.length 0 (by omega)

theorem spec_l1In_eq (x lo hi : Int) : spec_l1In.f x lo hi = some (decide (lo ≤ x ∧ x ≤ hi)) := by
  unfold spec_l1In.f
  by_cases c : x ≥ lo
  · rw [if_pos c]
    congr 1
    simp only [c, true_and]
  · rw [if_neg c]
    congr 1
    exact (decide_eq_false (fun h => c h.1)).symm

theorem impl_within_eq (x lo hi : Int) : impl_within.f x lo hi = some (decide (lo ≤ x ∧ x ≤ hi)) := by
  unfold impl_within.f
  by_cases c : x ≥ lo
  · rw [if_pos c]
    congr 1
    simp only [c, true_and]
  · rw [if_neg c]
    congr 1
    exact (decide_eq_false (fun h => c h.1)).symm

def partOk (n d : Int) : Bool := decide (1 ≤ n ∧ n < d ∧ d ≤ 200)
theorem spec_rdPart_eq (n d : Int) : spec_rdPart.f n d = some (partOk n d) := by
  simp only [spec_rdPart.f, spec_l1In_eq, Option.bind_some, partOk]
  by_cases a : 2 ≤ d ∧ d ≤ 200
  · rw [w64 (by omega) (by omega)]
    rw [decide_eq_true a]
    simp only [if_true]
    exact congrArg some (decide_eq_decide.2 (by omega))
  · simp only [a, decide_false, Bool.false_eq_true, if_false]
    congr 1
    exact (decide_eq_false (fun h => a ⟨by omega, h.2.2⟩)).symm
theorem impl_isPart_eq (n d : Int) : impl_isPart.f n d = some (partOk n d) := by
  simp only [impl_isPart.f, impl_within_eq, Option.bind_some, partOk]
  by_cases a : 1 ≤ n ∧ n ≤ 200
  · rw [w64 (by omega) (by omega)]
    rw [decide_eq_true a]
    simp only [if_true]
    exact congrArg some (decide_eq_decide.2 (by omega))
  · simp only [a, decide_false, Bool.false_eq_true, if_false]
    congr 1
    exact (decide_eq_false (fun h => a ⟨h.1, by omega⟩)).symm

theorem spec_l1All_ev (lo hi : Int) (l : List Int) (hl : l.length ≤ 4611686018427387903) : Ev (fun k => spec_l1All.f k l lo hi) (l.all fun x => decide (lo ≤ x ∧ x ≤ hi)) := by
  have key : ∀ (d i : Nat), i + d = l.length → Ev (fun k => spec_l1All.l0 k lo hi l (l.length : Int) (i : Int)) ((l.drop i).all fun x => decide (lo ≤ x ∧ x ≤ hi)) := by
    intro d
    induction d with
    | zero =>
      intro i h
      rw [List.drop_eq_nil_of_le (by omega)]
      exact Ev.step (f := fun _ => some true) (fun k => by simp only [spec_l1All.l0]; rw [if_neg (by omega)]) (Ev.now _)
    | succ d ih =>
      intro i h
      have hi' : i < l.length := by omega
      rw [List.drop_eq_getElem_cons hi', List.all_cons]
      refine Ev.step (f := fun k => (spec_l1In.f l[i] lo hi).bind fun t => if t = true then spec_l1All.l0 k lo hi l (l.length : Int) ((i + 1 : Nat) : Int) else some false) (fun k => by simp only [spec_l1All.l0]; rw [if_pos (by omega), if_pos (by omega), if_pos (by omega), rd_nat l i hi', w64s (by omega)]) ?_
      refine ev_some (spec_l1In_eq _ _ _) ?_
      by_cases c : lo ≤ l[i] ∧ l[i] ≤ hi
      · simp only [c, and_self, decide_true, if_true, Bool.true_and]
        exact ih (i + 1) (by omega)
      · simp only [c, decide_false, Bool.false_and, Bool.false_eq_true, if_false]
        exact Ev.now _
  exact key l.length 0 (by omega)

theorem impl_allWithin_ev (lo hi : Int) (l : List Int) (hl : l.length ≤ 4611686018427387903) : Ev (fun k => impl_allWithin.f k l lo hi) (l.all fun x => decide (lo ≤ x ∧ x ≤ hi)) := by
  have key : ∀ (d i : Nat), i + d = l.length → Ev (fun k => impl_allWithin.l0 k lo hi l (l.length : Int) (i : Int)) ((l.drop i).all fun x => decide (lo ≤ x ∧ x ≤ hi)) := by
    intro d
    induction d with
    | zero =>
      intro i h
      rw [List.drop_eq_nil_of_le (by omega)]
      exact Ev.step (f := fun _ => some true) (fun k => by simp only [impl_allWithin.l0]; rw [if_neg (by omega)]) (Ev.now _)
    | succ d ih =>
      intro i h
      have hi' : i < l.length := by omega
      rw [List.drop_eq_getElem_cons hi', List.all_cons]
      refine Ev.step (f := fun k => (impl_within.f l[i] lo hi).bind fun t => if t = true then impl_allWithin.l0 k lo hi l (l.length : Int) ((i + 1 : Nat) : Int) else some false) (fun k => by simp only [impl_allWithin.l0]; rw [if_pos (by omega), if_pos (by omega), if_pos (by omega), rd_nat l i hi', w64s (by omega)]) ?_
      refine ev_some (impl_within_eq _ _ _) ?_
      by_cases c : lo ≤ l[i] ∧ l[i] ≤ hi
      · simp only [c, and_self, decide_true, if_true, Bool.true_and]
        exact ih (i + 1) (by omega)
      · simp only [c, decide_false, Bool.false_and, Bool.false_eq_true, if_false]
        exact Ev.now _
  exact key l.length 0 (by omega)

def rowOk (x : List Int) : Bool := decide ((x.length : Int) = 2) && partOk (rd x 0) (rd x 1)
theorem partOk_is {a b : Int} (h : partOk a b = true) : 1 ≤ a ∧ a < b ∧ b ≤ 200 := of_decide_eq_true h
theorem back (l : List (List Int)) (es : List Int) (hrows : ∀ x ∈ l, rowOk x = true) (hes : ∀ x ∈ es, 0 ≤ x ∧ x ≤ 200) (hlen : l.length = es.length) (h6 : l.length ≤ 6) : ∀ (n : Nat) (L : Int), n ≤ l.length → 0 ≤ L → L ≤ 2000 → ∃ e, Ev (fun k => spec_AfterParts.l1 k L l es ((n : Int) - 1)) e ∧ Ev (fun k => impl_AfterParts.l1 k L l es ((n : Int) - 1)) e := by
  intro n
  induction n with
  | zero =>
    intro L h h0 h1
    refine ⟨(L, true), ev_succ ?_, ev_succ ?_⟩
    · simp only [spec_AfterParts.l1]
      refine ev_else (by omega) ?_
      exact Ev.now _
    · simp only [impl_AfterParts.l1]
      refine ev_else (by omega) ?_
      exact Ev.now _
  | succ n ih =>
    intro L h h0 h1
    have hn : n < l.length := by omega
    have hn2 : n < es.length := by omega
    have r1 := hrows l[n] (List.getElem_mem hn)
    have r2 := hes es[n] (List.getElem_mem hn2)
    simp only [rowOk, Bool.and_eq_true, decide_eq_true_eq] at r1
    have r3 := partOk_is r1.2
    have hx : ((n + 1 : Nat) : Int) - 1 = (n : Int) := by omega
    rw [hx]
    have hlen2 := r1.1
    have e1 := rdL1_nat l n hn
    have e2 := rd_nat es n hn2
    generalize l[n] = row at *
    generalize es[n] = E at *
    generalize hA : rd row 0 = A at *
    generalize hB : rd row 1 = B at *
    have t0 : 0 ≤ (L + E) * B := Int.mul_nonneg (by omega) (by omega)
    have t1 : (L + E) * B ≤ 2200 * 200 := Int.mul_le_mul (by omega) (by omega) (by omega) (by omega)
    have q0 : 0 ≤ (L + E) * B / (B - A) := Int.ediv_nonneg t0 (by omega)
    have q1 : (L + E) * B / (B - A) ≤ (L + E) * B := Int.ediv_le_self _ t0
    have p0 : 0 ≤ (L + E) * B / (B - A) * A := Int.mul_nonneg q0 (by omega)
    have p1 : (L + E) * B / (B - A) * A ≤ 440000 * 200 := Int.mul_le_mul (by omega) (by omega) (by omega) (by omega)
    by_cases c : (L + E) * B % (B - A) = 0
    · have hq : (L + E) * B / (B - A) * (B - A) = (L + E) * B := Int.ediv_mul_cancel_of_emod_eq_zero c
      have hz : (L + E) * B / (B - A) * A % B = 0 := by
        have : (L + E) * B / (B - A) * A = ((L + E) * B / (B - A) - (L + E)) * B := by
          rw [Int.sub_mul]
          rw [Int.mul_sub] at hq
          omega
        rw [this]
        exact Int.mul_emod_left _ _
      have body : ∀ e, (¬ (L + E) * B / (B - A) > 2000 → Ev (fun k => spec_AfterParts.l1 k ((L + E) * B / (B - A)) l es ((n : Int) - 1)) e ∧ Ev (fun k => impl_AfterParts.l1 k ((L + E) * B / (B - A)) l es ((n : Int) - 1)) e) → ((L + E) * B / (B - A) > 2000 → e = (0, false)) → Ev (fun k => spec_AfterParts.l1 k L l es (n : Int)) e ∧ Ev (fun k => impl_AfterParts.l1 k L l es (n : Int)) e := by
        intro e f1 f2
        have z1 : Int.tmod ((L + E) * B) (B - A) = 0 := by rw [Int.tmod_eq_emod_of_nonneg t0]; exact c
        have z2 : Int.tmod ((L + E) * B / (B - A) * A) B = 0 := by rw [Int.tmod_eq_emod_of_nonneg p0]; exact hz
        refine ⟨ev_succ ?_, ev_succ ?_⟩
        · simp only [spec_AfterParts.l1, e1, e2, hA, hB]
          refine ev_if (by omega) (ev_if (by omega) (ev_if (by omega) (ev_if (by omega) (ev_if (by omega) (ev_if (by omega) ?_)))))
          simp only [w64 (x := L + E) (by omega) (by omega), w64 (x := B - A) (by omega) (by omega), w64 (x := (L + E) * B) (by omega) (by omega), Int.tdiv_eq_ediv_of_nonneg t0, w64 (x := (L + E) * B / (B - A)) (by omega) (by omega), w64 (x := (L + E) * B / (B - A) * A) (by omega) (by omega), w64 (x := (n : Int) - 1) (by omega) (by omega)]
          refine ev_else (by omega) (ev_if z1 (ev_else (by omega) (ev_if z2 ?_)))
          by_cases g : (L + E) * B / (B - A) > 2000
          · refine ev_if g ?_
            rw [f2 g]
            exact Ev.now _
          · refine ev_else g ?_
            exact (f1 g).1
        · simp only [impl_AfterParts.l1, e1, e2, hA, hB]
          refine ev_if (by omega) (ev_if (by omega) (ev_if (by omega) (ev_if (by omega) (ev_if (by omega) (ev_if (by omega) ?_)))))
          simp only [w64 (x := L + E) (by omega) (by omega), w64 (x := B - A) (by omega) (by omega), w64 (x := (L + E) * B) (by omega) (by omega), Int.tdiv_eq_ediv_of_nonneg t0, w64 (x := (L + E) * B / (B - A)) (by omega) (by omega), w64 (x := (n : Int) - 1) (by omega) (by omega)]
          refine ev_else (by omega) (ev_if z1 ?_)
          by_cases g : (L + E) * B / (B - A) > 2000
          · refine ev_if g ?_
            rw [f2 g]
            exact Ev.now _
          · refine ev_else g ?_
            exact (f1 g).2
      by_cases g : (L + E) * B / (B - A) > 2000
      · exact ⟨(0, false), body _ (fun h => absurd g h) (fun _ => rfl)⟩
      · obtain ⟨e, g1, g2⟩ := ih ((L + E) * B / (B - A)) (by omega) q0 (by omega)
        exact ⟨e, body e (fun _ => ⟨g1, g2⟩) (fun h => absurd h g)⟩
    · have z1 : ¬ Int.tmod ((L + E) * B) (B - A) = 0 := by rw [Int.tmod_eq_emod_of_nonneg t0]; exact c
      refine ⟨(0, false), ev_succ ?_, ev_succ ?_⟩
      · simp only [spec_AfterParts.l1, e1, e2, hA, hB]
        refine ev_if (by omega) (ev_if (by omega) (ev_if (by omega) (ev_if (by omega) (ev_if (by omega) (ev_if (by omega) ?_)))))
        simp only [w64 (x := L + E) (by omega) (by omega), w64 (x := B - A) (by omega) (by omega), w64 (x := (L + E) * B) (by omega) (by omega)]
        refine ev_else (by omega) (ev_else z1 ?_)
        exact Ev.now _
      · simp only [impl_AfterParts.l1, e1, e2, hA, hB]
        refine ev_if (by omega) (ev_if (by omega) (ev_if (by omega) (ev_if (by omega) (ev_if (by omega) (ev_if (by omega) ?_)))))
        simp only [w64 (x := L + E) (by omega) (by omega), w64 (x := B - A) (by omega) (by omega), w64 (x := (L + E) * B) (by omega) (by omega)]
        refine ev_else (by omega) (ev_else z1 ?_)
        exact Ev.now _
theorem walk (L : Int) (hL : 0 ≤ L ∧ L ≤ 2000) (l : List (List Int)) (es : List Int) (hes : ∀ x ∈ es, 0 ≤ x ∧ x ≤ 200) (hlen : l.length = es.length) (h6 : l.length ≤ 6) : ∃ e, Ev (fun k => spec_AfterParts.l0 k L l es l (l.length : Int) 0) e ∧ Ev (fun k => impl_AfterParts.l0 k L l es l (l.length : Int) 0) e := by
  have key : ∀ (d i : Nat), i + d = l.length → (∀ x ∈ l.take i, rowOk x = true) → ∃ e, Ev (fun k => spec_AfterParts.l0 k L l es l (l.length : Int) (i : Int)) e ∧ Ev (fun k => impl_AfterParts.l0 k L l es l (l.length : Int) (i : Int)) e := by
    intro d
    induction d with
    | zero =>
      intro i h hall
      rw [List.take_of_length_le (by omega)] at hall
      obtain ⟨e, e1, e2⟩ := back l es hall hes hlen h6 l.length L (Nat.le_refl _) hL.1 hL.2
      refine ⟨e, ev_succ ?_, ev_succ ?_⟩
      · simp only [spec_AfterParts.l0]
        refine ev_else (by omega) ?_
        rw [w64 (by omega) (by omega)]
        exact e1
      · simp only [impl_AfterParts.l0]
        refine ev_else (by omega) ?_
        rw [w64 (by omega) (by omega)]
        exact e2
    | succ d ih =>
      intro i h hall
      have hi : i < l.length := by omega
      by_cases c : (l[i].length : Int) = 2
      · by_cases b : partOk (rd l[i] 0) (rd l[i] 1) = true
        · obtain ⟨e, e1, e2⟩ := ih (i + 1) (by omega) (fun x hx => by
            rw [List.take_succ_eq_append_getElem hi] at hx
            rcases List.mem_append.1 hx with hx | hx
            · exact hall x hx
            · rw [List.mem_singleton.1 hx, rowOk, b, Bool.and_true]
              exact decide_eq_true c)
          refine ⟨e, ev_succ ?_, ev_succ ?_⟩
          · simp only [spec_AfterParts.l0, rdL1_nat l i hi, spec_rdPart_eq, Option.bind_some, b, if_true]
            refine ev_if (by omega) (ev_if (by omega) (ev_if (by omega) (ev_if c (ev_if (by omega) (ev_if (by omega) ?_)))))
            rw [w64s (by omega)]
            exact e1
          · simp only [impl_AfterParts.l0, rdL1_nat l i hi, impl_isPart_eq, Option.bind_some, b, if_true]
            refine ev_if (by omega) (ev_if (by omega) (ev_if (by omega) (ev_if c (ev_if (by omega) (ev_if (by omega) ?_)))))
            rw [w64s (by omega)]
            exact e2
        · refine ⟨(0, false), ev_succ ?_, ev_succ ?_⟩
          · simp only [spec_AfterParts.l0, rdL1_nat l i hi, spec_rdPart_eq, Option.bind_some, b, Bool.false_eq_true, if_false]
            refine ev_if (by omega) (ev_if (by omega) (ev_if (by omega) (ev_if c (ev_if (by omega) (ev_if (by omega) ?_)))))
            exact Ev.now _
          · simp only [impl_AfterParts.l0, rdL1_nat l i hi, impl_isPart_eq, Option.bind_some, b, Bool.false_eq_true, if_false]
            refine ev_if (by omega) (ev_if (by omega) (ev_if (by omega) (ev_if c (ev_if (by omega) (ev_if (by omega) ?_)))))
            exact Ev.now _
      · refine ⟨(0, false), ev_succ ?_, ev_succ ?_⟩
        · simp only [spec_AfterParts.l0, rdL1_nat l i hi]
          refine ev_if (by omega) (ev_if (by omega) (ev_if (by omega) (ev_else c ?_)))
          exact Ev.now _
        · simp only [impl_AfterParts.l0, rdL1_nat l i hi]
          refine ev_if (by omega) (ev_if (by omega) (ev_if (by omega) (ev_else c ?_)))
          exact Ev.now _
  exact key l.length 0 (by omega) (by simp)
theorem same (L : Int) (l : List (List Int)) (es : List Int) (hl : l.length ≤ 1048576) (he : es.length ≤ 1048576) : ∃ e, Ev (fun k => spec_AfterParts.f k L l es) e ∧ Ev (fun k => impl_AfterParts.f k L l es) e := by
  have s0 : Ev (fun k => spec_AfterParts.j0 k L l es true) (0, false) := by
    refine ev_succ ?_
    simp only [spec_AfterParts.j0, if_true]
    exact Ev.now _
  have i0 : Ev (fun k => impl_AfterParts.j0 k L l es true) (0, false) := by
    refine ev_succ ?_
    simp only [impl_AfterParts.j0, if_true]
    exact Ev.now _
  simp only [spec_AfterParts.f, impl_AfterParts.f, spec_l1In_eq, impl_within_eq, Option.bind_some]
  by_cases a : 0 ≤ L ∧ L ≤ 2000
  · simp only [a, and_self, decide_true, if_true]
    by_cases b : (l.length : Int) > 6
    · simp only [b, if_true]
      exact ⟨_, s0, i0⟩
    · simp only [b, if_false]
      by_cases c : (l.length : Int) = (es.length : Int)
      · simp only [c, if_true]
        by_cases d : (es.all fun x => decide (0 ≤ x ∧ x ≤ 200)) = true
        · obtain ⟨e, e1, e2⟩ := walk L a l es (fun x hx => of_decide_eq_true (List.all_eq_true.1 d x hx)) (by omega) (by omega)
          refine ⟨e, ?_, ?_⟩
          · refine Ev.bind (spec_l1All_ev 0 200 es (by omega)) ?_
            rw [d]
            refine ev_succ ?_
            simp only [spec_AfterParts.j0, Bool.not_true, Bool.false_eq_true, if_false]
            exact e1
          · refine Ev.bind (impl_allWithin_ev 0 200 es (by omega)) ?_
            rw [d]
            refine ev_succ ?_
            simp only [impl_AfterParts.j0, Bool.not_true, Bool.false_eq_true, if_false]
            exact e2
        · simp only [Bool.not_eq_true] at d
          refine ⟨(0, false), ?_, ?_⟩
          · refine Ev.bind (spec_l1All_ev 0 200 es (by omega)) ?_
            rw [d]
            exact s0
          · refine Ev.bind (impl_allWithin_ev 0 200 es (by omega)) ?_
            rw [d]
            exact i0
      · simp only [c, if_false]
        exact ⟨_, s0, i0⟩
  · simp only [a, decide_false, Bool.false_eq_true, if_false]
    exact ⟨_, s0, i0⟩
theorem FnExactAfterParts : ∀ (a0 : Int) (l1 : List (List Int)) (l2 : List Int), (Lit.int .i64 a0).wf = true → l1.length ≤ maxLen → (∀ x ∈ l1, x.length ≤ maxLen ∧ ∀ y ∈ x, (Lit.int .i64 y).wf = true) → l2.length ≤ maxLen → l2.length * 8 ≤ 140737488351232 → (∀ x ∈ l2, (Lit.int .i64 x).wf = true) → ∃ k, laws_FnExactAfterParts.f k a0 l1 l2 = some true := by
  intro a0 l1 l2 wa hm hw hm2 h8 hw2
  refine Ev.rounds (r := true) ?_
  simp only [laws_FnExactAfterParts.f]
  by_cases c : (l2.length : Int) > 1048576
  · refine ev_if c ?_
    exact Ev.now _
  · refine ev_else c ?_
    obtain ⟨v, hv, hv2⟩ := laws_szIntSS_ev l1 hm (fun x hx => (hw x hx).1)
    refine Ev.bind hv ?_
    by_cases d : v < 0
    · refine ev_if d ?_
      exact Ev.now _
    · refine ev_else d ?_
      rcases hv2 with hv2 | ⟨g1, g2⟩
      · exact absurd hv2 d
      · obtain ⟨r, h1, h2⟩ := same a0 l1 l2 g1 (by omega)
        have ht := laws_toIntSS_ev l1 g1 g2
        have he := laws_eqIntSS_ev l1 g1 g2
        repeat (first
          | exact Ev.now _
          | (dsimp only)
          | (with_reducible refine Ev.bind h1 ?_)
          | (with_reducible refine Ev.bind h2 ?_)
          | (with_reducible refine Ev.bind ht ?_)
          | (with_reducible refine Ev.bind he ?_)
          | (with_reducible refine Ev.bind (laws_toIntS_ev _ (by omega)) ?_)
          | (with_reducible refine Ev.bind (laws_eqIntS_ev _ _ (by omega)) ?_)
          | (simp only [decide_true, if_true, bne_self_eq_false, Bool.false_eq_true, if_false, neg_no])
          | (refine ev_succ ?_; simp only [laws_FnExactAfterParts.j0]))

end Go.Proofs.Ytdnknmodffigdaa.Pure
