/- The plain law behind FnExactOrderOnDay, in lists and numbers alone: the program's stable sort of the readers and the reference's insertion come to one order. No condition beyond the printed bounds. -/
import Derived.Test.YtpakdddehianmaaXFnExactOrderOnDayx6
set_option linter.unusedVariables false
set_option linter.unusedSimpArgs false
namespace Go.Proofs.Ytpakdddehianmaa.Pure
open Go.RowKit Go.Proofs.Ytpakdddehianmaa.XFnExactOrderOnDay Go.Proofs.YtpakdddehianmaaW.PrintWords Go.Proofs.YtpakdddehianmaaW.PrintLast Go.Proofs.YtpakdddehianmaaW.PrintMore
/-! ### Small words: rounds, reads, sums without a wrap. -/
theorem ev_some {α β : Type} {g : Option α} {f : Nat → α → Option β} {a : α} {r : β} (h : g = some a) (k : Ev (fun n => f n a) r) : Ev (fun n => g.bind (f n)) r := by
  subst h
  exact k
theorem ev_ret {α : Type} {r s : α} (h : r = s) : Ev (fun _ => some r) s := by
  subst h
  exact Ev.now r
theorem ev_map {α β : Type} {g : Nat → Option α} {f : α → β} {a : α} {r : β} (h : Ev g a) (e : f a = r) : Ev (fun n => (g n).bind fun t => some (f t)) r := Ev.bind h (ev_ret e)
theorem ev_eq {α : Type} {g f : Nat → Option α} {r : α} (h : g = f) (k : Ev f r) : Ev g r := by
  rw [h]
  exact k
theorem w64 {x : Int} (h0 : -9223372036854775808 ≤ x) (h1 : x ≤ 9223372036854775807) : wrap64 x = x := by
  unfold wrap64
  omega
theorem w64s {i : Nat} (h : i < 4611686018427387904) : wrap64 ((i : Int) + 1) = ((i + 1 : Nat) : Int) := by
  rw [w64 (by omega) (by omega)]
  rfl
theorem rd_nat (l : List Int) (i : Nat) (h : i < l.length) : rd l (i : Int) = l[i] := by
  unfold rd
  rw [Int.toNat_natCast, List.getD_eq_getElem?_getD, List.getElem?_eq_getElem h]
  rfl
theorem wf_i64 {x : Int} (h : (Lit.int .i64 x).wf = true) : -9223372036854775808 ≤ x ∧ x ≤ 9223372036854775807 := by
  simp only [Lit.wf, Bool.and_eq_true, decide_eq_true_eq] at h
  exact h
theorem ev_succ {α : Type} {g : Nat → Option α} {r : α} (h : Ev (fun k => g (k + 1)) r) : Ev g r := Ev.step (fun _ => rfl) h
theorem neg_no (n : Nat) : ¬ (1 + (n : Int) < 0) := by omega
theorem ev_if {α : Type} {c : Prop} [Decidable c] {g f : Nat → Option α} {r : α} (h : c) (k : Ev g r) : Ev (fun n => if c then g n else f n) r := Ev.congr (fun _ => if_pos h) k
theorem ev_else {α : Type} {c : Prop} [Decidable c] {g f : Nat → Option α} {r : α} (h : ¬ c) (k : Ev f r) : Ev (fun n => if c then g n else f n) r := Ev.congr (fun _ => if_neg h) k

theorem set_app {α : Type} (a b : List α) (x y : α) (n : Nat) (h : n = a.length) : (a ++ x :: b).set n y = a ++ y :: b := by
  subst h
  simp

theorem spec_l1In_eq (x lo hi : Int) : spec_l1In.f x lo hi = some (decide (lo ≤ x ∧ x ≤ hi)) := by
  unfold spec_l1In.f
  by_cases c : x ≥ lo
  · rw [if_pos c]
    congr 1
    simp only [c, true_and]
  · rw [if_neg c]
    congr 1
    exact (decide_eq_false (fun h => c h.1)).symm

theorem impl_within_eq (x lo hi : Int) : impl_within.f x lo hi = some (decide (lo ≤ x ∧ x ≤ hi)) := by
  unfold impl_within.f
  by_cases c : x ≥ lo
  · rw [if_pos c]
    congr 1
    simp only [c, true_and]
  · rw [if_neg c]
    congr 1
    exact (decide_eq_false (fun h => c h.1)).symm

def rOk (m d r : Int) : Bool := decide (0 ≤ m ∧ m ≤ 2000) && (decide (1 ≤ d ∧ d ≤ 200) && (decide (r = 0) || decide (2 ≤ r ∧ r ≤ 60)))
theorem rOk_is {m d r : Int} (h : rOk m d r = true) : (0 ≤ m ∧ m ≤ 2000) ∧ (1 ≤ d ∧ d ≤ 200) ∧ (r = 0 ∨ 2 ≤ r ∧ r ≤ 60) := by
  simp only [rOk, Bool.and_eq_true, Bool.or_eq_true, decide_eq_true_eq] at h
  exact h
theorem spec_rdGood_eq (m d r : Int) : spec_rdGood.f m d r = some (rOk m d r) := by
  simp only [spec_rdGood.f, spec_l1In_eq, Option.bind_some, rOk]
  by_cases a : 0 ≤ m ∧ m ≤ 2000
  · by_cases b : 1 ≤ d ∧ d ≤ 200
    · by_cases c : r = 0
      · simp [a, b, c]
      · simp [a, b, c]
    · simp [a, b]
  · simp [a]
/-- On how many of so many days something is read. -/
def nread (r day : Int) : Int := day - (if r > 0 then day / r else 0)
theorem nread_bd {m d r : Int} (h : rOk m d r = true) (day : Int) (hd : 0 ≤ day) : 0 ≤ nread r day ∧ nread r day ≤ day ∧ day ≤ 2 * nread r day := by
  have hr := (rOk_is h).2.2
  unfold nread
  by_cases c : r > 0
  · rw [if_pos c]
    have h1 := Int.ediv_nonneg hd (show 0 ≤ r by omega)
    have h2 := Int.ediv_mul_le day (show r ≠ 0 by omega)
    have h3 := Int.mul_le_mul_of_nonneg_left (show (2 : Int) ≤ r by omega) h1
    omega
  · rw [if_neg c]
    omega
/-- The last page behind so many days. -/
def aft (m d r day : Int) : Int := m + d * nread r day
theorem aft_bd {m d r : Int} (h : rOk m d r = true) (day : Int) (hd : 0 ≤ day ∧ day ≤ 10000) : m + nread r day ≤ aft m d r day ∧ aft m d r day ≤ 2002000 ∧ 0 ≤ d * nread r day ∧ d * nread r day ≤ 2000000 := by
  obtain ⟨h1, h2, h3⟩ := rOk_is h
  have h4 := nread_bd h day hd.1
  have h5 : 1 * nread r day ≤ d * nread r day := Int.mul_le_mul_of_nonneg_right h2.1 h4.1
  have h6 : d * nread r day ≤ 200 * 10000 := Int.mul_le_mul h2.2 (by omega) h4.1 (by omega)
  unfold aft
  omega
theorem spec_rdFree_eq {m d r : Int} (h : rOk m d r = true) (day : Int) (hd : 0 ≤ day ∧ day ≤ 10000) : spec_rdFree.f m d r day = some (aft m d r day) := by
  have h1 := rOk_is h
  have h2 := aft_bd h day hd
  have h3 := nread_bd h day hd.1
  unfold aft at h2
  simp only [spec_rdFree.f]
  unfold aft
  unfold nread at h2 h3 ⊢
  by_cases c : r > 0
  · rw [if_pos c] at h2 h3 ⊢
    rw [if_pos c, if_neg (by omega), Int.tdiv_eq_ediv_of_nonneg hd.1, w64 (x := day / r) (by omega) (by omega), w64 (x := day - day / r) (by omega) (by omega), Int.mul_comm (day - day / r) d, w64 (x := d * (day - day / r)) (by omega) (by omega), w64 (by omega) (by omega)]
  · rw [if_neg c] at h2 h3 ⊢
    rw [if_neg c]
    rw [Int.sub_zero] at h2 h3 ⊢
    rw [Int.mul_comm day d, w64 (x := d * day) (by omega) (by omega), w64 (by omega) (by omega)]

theorem spec_bpBook_eq (p : Int) : spec_bpBook.f p = some (decide (1 ≤ p ∧ p ≤ 2000)) := by
  simp only [spec_bpBook.f, spec_l1In_eq, Option.bind_some]

def rBook (p m d r : Int) : Bool := decide (1 ≤ p ∧ p ≤ 2000) && (rOk m d r && decide (m ≤ p))
theorem rBook_is {p m d r : Int} (h : rBook p m d r = true) : (1 ≤ p ∧ p ≤ 2000) ∧ rOk m d r = true ∧ m ≤ p := by
  simp only [rBook, Bool.and_eq_true, decide_eq_true_eq] at h
  exact h
theorem spec_rdBook_eq (p m d r : Int) : spec_rdBook.f p m d r = some (rBook p m d r) := by
  simp only [spec_rdBook.f, spec_bpBook_eq, spec_rdGood_eq, Option.bind_some, rBook]
  by_cases a : 1 ≤ p ∧ p ≤ 2000
  · by_cases b : rOk m d r = true
    · simp [a, b]
    · simp [a, b]
  · simp [a]

/-- The law's own readers, as the reference's. -/
def rdrs (l : List S42) : List S39 := l.map fun x => ⟨x.f0, x.f1, x.f2⟩
theorem rdrs_len (l : List S42) : (rdrs l).length = l.length := by simp [rdrs]
theorem rd23_nat (l : List S42) (i : Nat) (h : i < l.length) : rd_T42 l (i : Int) = l[i] := by
  unfold rd_T42
  rw [Int.toNat_natCast, List.getD_eq_getElem?_getD, List.getElem?_eq_getElem h]
  rfl
theorem rd26_nat (l : List S39) (i : Nat) (h : i < l.length) : rd_T39 l (i : Int) = l[i] := by
  unfold rd_T39
  rw [Int.toNat_natCast, List.getD_eq_getElem?_getD, List.getElem?_eq_getElem h]
  rfl
theorem laws_szReaderS_ok (l : List S42) (h : l.length ≤ 1048576) : laws_szReaderS.f l 1048576 = some (1048576 - (l.length : Int)) := by
  simp only [laws_szReaderS.f]
  rw [w64 (by omega) (by omega), if_neg (by omega)]
theorem laws_szReaderS_no (l : List S42) (h : ¬ l.length ≤ 1048576) (hm : l.length ≤ maxLen) : laws_szReaderS.f l 1048576 = some (-1) := by
  unfold maxLen at hm
  simp only [laws_szReaderS.f]
  rw [w64 (by omega) (by omega), if_pos (by omega)]
theorem laws_toReaderS_ev (l : List S42) (hl : l.length ≤ 1048576) : Ev (fun k => laws_toReaderS.f k l) (rdrs l) := by
  have key : ∀ (d i : Nat), i + d = l.length → Ev (fun k => laws_toReaderS.l0 k l ((rdrs l).take i ++ List.replicate d z39) (i : Int)) (rdrs l) := by
    intro d
    induction d with
    | zero =>
      intro i h
      refine ev_succ ?_
      simp only [laws_toReaderS.l0]
      refine ev_else (by omega) ?_
      refine ev_ret ?_
      rw [List.take_of_length_le (by rw [rdrs_len]; omega)]
      simp
    | succ d ih =>
      intro i h
      have hi' : i < l.length := by omega
      have hi2 : i < (rdrs l).length := by rw [rdrs_len]; exact hi'
      refine Ev.step (f := fun k => laws_toReaderS.l0 k l ((rdrs l).take (i + 1) ++ List.replicate d z39) ((i + 1 : Nat) : Int)) (fun k => ?_) (ih (i + 1) (by omega))
      simp only [laws_toReaderS.l0, laws_toReader.f, Option.bind_some]
      rw [if_pos (by omega), if_pos (by omega), if_pos (by simp [rdrs_len]; omega), rd23_nat l i hi', w64s (by omega), Int.toNat_natCast, List.replicate_succ, set_app _ _ _ _ _ (by simp [rdrs_len]; omega), List.take_succ_eq_append_getElem hi2]
      simp only [List.append_assoc, List.cons_append, List.nil_append]
      simp [rdrs]
  refine ev_eq (f := fun k => laws_toReaderS.l0 k l ((rdrs l).take 0 ++ List.replicate l.length z39) ((0 : Nat) : Int)) ?_ (key l.length 0 (by omega))
  funext k
  simp only [laws_toReaderS.f]
  rw [if_pos (by omega), if_pos (by omega)]
  simp
theorem laws_eqReaderS_ev (a : List S39) (hl : a.length ≤ 4611686018427387903) : Ev (fun k => laws_eqReaderS.f k a a) true := by
  have key : ∀ (d i : Nat), i + d = a.length → Ev (fun k => laws_eqReaderS.l0 k a a (i : Int)) true := by
    intro d
    induction d with
    | zero =>
      intro i h
      refine ev_succ ?_
      simp only [laws_eqReaderS.l0]
      refine ev_else (by omega) ?_
      exact Ev.now _
    | succ d ih =>
      intro i h
      refine Ev.step (f := fun k => laws_eqReaderS.l0 k a a ((i + 1 : Nat) : Int)) (fun k => ?_) (ih (i + 1) (by omega))
      simp only [laws_eqReaderS.l0, laws_eqReader.f, if_true, Option.bind_some]
      rw [if_pos (by omega), if_pos (by omega), if_pos (by omega), w64s (by omega)]
  refine ev_eq (f := fun k => laws_eqReaderS.l0 k a a ((0 : Nat) : Int)) ?_ (key a.length 0 (by omega))
  funext k
  simp only [laws_eqReaderS.f, if_true]
  rfl
theorem spec_rdAll_ev (p : Int) (l : List S39) (hl : l.length ≤ 1048576) : Ev (fun k => spec_rdAll.f k p l) (decide (1 ≤ (l.length : Int) ∧ (l.length : Int) ≤ 6) && l.all fun x => rBook p x.f0 x.f1 x.f2) := by
  have key : ∀ (d i : Nat), i + d = l.length → Ev (fun k => spec_rdAll.l0 k p l (l.length : Int) (i : Int)) ((l.drop i).all fun x => rBook p x.f0 x.f1 x.f2) := by
    intro d
    induction d with
    | zero =>
      intro i h
      rw [List.drop_eq_nil_of_le (by omega)]
      refine ev_succ ?_
      simp only [spec_rdAll.l0]
      refine ev_else (by omega) ?_
      exact Ev.now _
    | succ d ih =>
      intro i h
      have h1 : i < l.length := by omega
      rw [List.drop_eq_getElem_cons h1]
      refine Ev.step (f := fun k => if rBook p l[i].f0 l[i].f1 l[i].f2 = true then spec_rdAll.l0 k p l (l.length : Int) ((i + 1 : Nat) : Int) else some false) (fun k => by simp only [spec_rdAll.l0]; rw [if_pos (by omega), if_pos (by omega), if_pos (by omega), rd26_nat l i h1, w64s (by omega), spec_rdBook_eq]; rfl) ?_
      by_cases c : rBook p l[i].f0 l[i].f1 l[i].f2 = true
      · simp only [c, if_true, List.all_cons, Bool.true_and]
        exact ih (i + 1) (by omega)
      · simp only [c, Bool.false_eq_true, if_false, List.all_cons, Bool.false_and]
        exact Ev.now _
  simp only [spec_rdAll.f]
  refine ev_some (spec_l1In_eq _ _ _) ?_
  by_cases a : 1 ≤ (l.length : Int) ∧ (l.length : Int) ≤ 6
  · simp only [a, and_self, decide_true, if_true, Bool.true_and]
    exact key l.length 0 (by omega)
  · simp only [a, decide_false, Bool.false_and, Bool.false_eq_true, if_false]
    exact Ev.now _
theorem goodR_eq (x : S39) : impl_goodR x = rOk x.f0 x.f1 x.f2 := rfl
theorem impl_isGroup_eq (l : List S39) : impl_isGroup.f l = some (decide (1 ≤ (l.length : Int) ∧ (l.length : Int) ≤ 6)) := by
  simp only [impl_isGroup.f, impl_within_eq, Option.bind_some]

theorem laws_eqIntS_ev (a b : List Int) (hl : a.length ≤ 4611686018427387903) : Ev (fun k => laws_eqIntS.f k a b) (decide (a = b)) := by
  by_cases hlen : a.length = b.length
  · have key : ∀ (d i : Nat), i + d = a.length → Ev (fun k => laws_eqIntS.l0 k a b (i : Int)) (decide (a.drop i = b.drop i)) := by
      intro d
      induction d with
      | zero =>
        intro i h
        rw [List.drop_eq_nil_of_le (by omega), List.drop_eq_nil_of_le (by omega)]
        refine ev_succ ?_
        simp only [laws_eqIntS.l0]
        refine ev_else (by omega) ?_
        exact ev_ret (by simp)
      | succ d ih =>
        intro i h
        have h1 : i < a.length := by omega
        have h2 : i < b.length := by omega
        rw [List.drop_eq_getElem_cons h1, List.drop_eq_getElem_cons h2]
        refine Ev.step (f := fun k => if a[i] = b[i] then laws_eqIntS.l0 k a b ((i + 1 : Nat) : Int) else some false) (fun k => by simp only [laws_eqIntS.l0]; rw [if_pos (by omega), if_pos (by omega), if_pos (by omega), rd_nat a i h1, rd_nat b i h2, w64s (by omega)]) ?_
        by_cases c : a[i] = b[i]
        · simp only [c, if_true, List.cons.injEq, true_and]
          exact ih (i + 1) (by omega)
        · simp only [c, if_false, List.cons.injEq, false_and, decide_false]
          exact Ev.now _
    refine ev_eq (f := fun k => laws_eqIntS.l0 k a b ((0 : Nat) : Int)) ?_ (key a.length 0 (by omega))
    funext k
    simp only [laws_eqIntS.f]
    rw [if_pos (by omega)]
    rfl
  · refine ev_eq (f := fun _ => some false) ?_ (ev_ret (by simp; intro h; exact hlen (by rw [h])))
    funext k
    simp only [laws_eqIntS.f]
    rw [if_neg (by omega)]

def marked (m : Int) (n : Nat) : List Int := (List.range n).map fun (j : Nat) => m + (j : Int)
theorem marked_succ (m : Int) (n : Nat) : marked m (n + 1) = marked m n ++ [m + (n : Int)] := by
  unfold marked
  rw [List.range_succ]
  simp
theorem marked_len (m : Int) (n : Nat) : (marked m n).length = n := by simp [marked]
theorem laws_markIntS_ev (l : List Int) (hl : l.length ≤ 1048576) : Ev (fun k => laws_markIntS.f k l 1) (1 + (l.length : Int), marked 1 l.length) := by
  have key : ∀ (d i : Nat), i + d = l.length → Ev (fun k => laws_markIntS.l0 k (marked 1 i ++ l.drop i) (1 + (i : Int)) (i : Int)) (1 + (l.length : Int), marked 1 l.length) := by
    intro d
    induction d with
    | zero =>
      intro i h
      obtain rfl : i = l.length := by omega
      refine ev_succ ?_
      simp only [laws_markIntS.l0]
      refine ev_else (by simp [marked_len]) ?_
      refine ev_ret ?_
      simp
    | succ d ih =>
      intro i h
      have h1 : i < l.length := by omega
      refine Ev.step (f := fun k => laws_markIntS.l0 k (marked 1 (i + 1) ++ l.drop (i + 1)) (1 + ((i + 1 : Nat) : Int)) ((i + 1 : Nat) : Int)) (fun k => ?_) (ih (i + 1) (by omega))
      simp only [laws_markIntS.l0]
      rw [if_pos (by simp [marked_len]; omega), if_pos (by omega), w64s (by omega), Int.toNat_natCast, List.drop_eq_getElem_cons h1, set_app _ _ _ _ _ (by simp [marked_len]), w64 (by omega) (by omega), marked_succ]
      simp only [List.append_assoc, List.singleton_append, Int.natCast_succ, Int.add_assoc]
  refine ev_eq (f := fun k => laws_markIntS.l0 k (marked 1 0 ++ l.drop 0) (1 + ((0 : Nat) : Int)) ((0 : Nat) : Int)) ?_ (key l.length 0 (by omega))
  funext k
  simp only [laws_markIntS.f]
  simp [marked]
theorem laws_heldIntS_ev (n : Nat) (hl : n ≤ 1048576) : Ev (fun k => laws_heldIntS.f k (marked 1 n) 1) (1 + (n : Int)) := by
  have key : ∀ (d i : Nat), i + d = n → Ev (fun k => laws_heldIntS.l0 k (marked 1 n) (1 + (i : Int)) (i : Int)) (1 + (n : Int)) := by
    intro d
    induction d with
    | zero =>
      intro i h
      obtain rfl : i = n := by omega
      refine ev_succ ?_
      simp only [laws_heldIntS.l0]
      refine ev_else (by simp [marked_len]) ?_
      exact ev_ret rfl
    | succ d ih =>
      intro i h
      refine Ev.step (f := fun k => laws_heldIntS.l0 k (marked 1 n) (1 + ((i + 1 : Nat) : Int)) ((i + 1 : Nat) : Int)) (fun k => ?_) (ih (i + 1) (by omega))
      simp only [laws_heldIntS.l0]
      rw [if_pos (by simp [marked_len]; omega), if_pos (by omega), rd_nat _ i (by simp [marked_len]; omega), if_pos (by simp [marked]), w64s (by omega), w64 (by omega) (by omega)]
      simp only [Int.natCast_succ, Int.add_assoc]
  refine ev_eq (f := fun k => laws_heldIntS.l0 k (marked 1 n) (1 + ((0 : Nat) : Int)) ((0 : Nat) : Int)) ?_ (key n 0 (by omega))
  funext k
  simp only [laws_heldIntS.f]
  simp

theorem book_all (p : Int) (l : List S39) : (impl_areReadersOf.f p l).bind (fun b => some (b && decide (1 ≤ (l.length : Int) ∧ (l.length : Int) ≤ 6))) = some (decide (1 ≤ (l.length : Int) ∧ (l.length : Int) ≤ 6) && l.all fun x => rBook p x.f0 x.f1 x.f2) := by
  simp only [impl_areReadersOf.f, Option.bind_some]
  congr 1
  by_cases a : 1 ≤ (l.length : Int) ∧ (l.length : Int) ≤ 6
  · simp only [a, and_self, decide_true, Bool.and_true, Bool.true_and]
    cases l with
    | nil => simp at a
    | cons y t =>
      rw [Bool.eq_iff_iff]
      simp only [Bool.and_eq_true, List.all_eq_true, decide_eq_true_eq, goodR_eq, rBook]
      constructor
      · rintro ⟨h1, h2, h3⟩ x hx
        exact ⟨h1, h2 x hx, h3 x hx⟩
      · intro h
        exact ⟨(h y List.mem_cons_self).1, fun x hx => (h x hx).2.1, fun x hx => (h x hx).2.2⟩
  · simp only [a, decide_false, Bool.and_false, Bool.false_and]
theorem laws_markReaderS_ev (l : List S39) (hl : l.length ≤ 1048576) : ∃ q, Ev (fun k => laws_markReaderS.f k l 1) (1 + 3 * (l.length : Int), q) := by
  have key : ∀ (d i : Nat) (x : List S39) (m : Int), i + d = x.length → x.length ≤ 1048576 → m = 1 + 3 * (i : Int) → ∃ q, Ev (fun k => laws_markReaderS.l0 k x m (i : Int)) (1 + 3 * (x.length : Int), q) := by
    intro d
    induction d with
    | zero =>
      intro i x m h hx hm
      refine ⟨x, ev_succ ?_⟩
      simp only [laws_markReaderS.l0]
      refine ev_else (by omega) ?_
      refine ev_ret ?_
      rw [hm, show i = x.length by omega]
    | succ d ih =>
      intro i x m h hx hm
      have e1 : wrap64 (m + 1) = m + 1 := w64 (by omega) (by omega)
      have e2 : wrap64 (m + 1 + 1) = m + 2 := by rw [w64 (by omega) (by omega)]; omega
      have e3 : wrap64 (m + 2 + 1) = m + 3 := by rw [w64 (by omega) (by omega)]; omega
      obtain ⟨q, hq⟩ := ih (i + 1) (((x.set i ⟨m, (rd_T39 x (i : Int)).f1, (rd_T39 x (i : Int)).f2⟩).set i ⟨(rd_T39 (x.set i ⟨m, (rd_T39 x (i : Int)).f1, (rd_T39 x (i : Int)).f2⟩) (i : Int)).f0, m + 1, (rd_T39 (x.set i ⟨m, (rd_T39 x (i : Int)).f1, (rd_T39 x (i : Int)).f2⟩) (i : Int)).f2⟩).set i ⟨(rd_T39 ((x.set i ⟨m, (rd_T39 x (i : Int)).f1, (rd_T39 x (i : Int)).f2⟩).set i ⟨(rd_T39 (x.set i ⟨m, (rd_T39 x (i : Int)).f1, (rd_T39 x (i : Int)).f2⟩) (i : Int)).f0, m + 1, (rd_T39 (x.set i ⟨m, (rd_T39 x (i : Int)).f1, (rd_T39 x (i : Int)).f2⟩) (i : Int)).f2⟩) (i : Int)).f0, (rd_T39 ((x.set i ⟨m, (rd_T39 x (i : Int)).f1, (rd_T39 x (i : Int)).f2⟩).set i ⟨(rd_T39 (x.set i ⟨m, (rd_T39 x (i : Int)).f1, (rd_T39 x (i : Int)).f2⟩) (i : Int)).f0, m + 1, (rd_T39 (x.set i ⟨m, (rd_T39 x (i : Int)).f1, (rd_T39 x (i : Int)).f2⟩) (i : Int)).f2⟩) (i : Int)).f1, m + 2⟩) (m + 3) (by simp only [List.length_set]; omega) (by simp only [List.length_set]; omega) (by omega)
      refine ⟨q, ev_succ ?_⟩
      simp only [laws_markReaderS.l0, Option.bind_some, Int.toNat_natCast, e1, e2, e3]
      refine ev_if (by omega) ?_
      refine ev_if (by omega) ?_
      rw [w64s (i := i) (by omega)]
      simp only [List.length_set] at hq
      exact hq
  obtain ⟨q, hq⟩ := key l.length 0 l 1 (by omega) hl (by omega)
  exact ⟨q, hq⟩
abbrev ky (p day : Int) (l : List S39) (i : Nat) : Int := impl_OrderOnDay.key p l day i
abbrev lt_ (p day : Int) (l : List S39) : Nat → Nat → Bool := fun x y => decide (ky p day l y < ky p day l x)
theorem own_eq (xs : List Int) (h : xs.length ≤ 100) : spec_l1Own.f xs = some xs := by
  simp only [spec_l1Own.f, Option.bind_some, List.length_nil, List.nil_append]
  rw [if_pos (by omega)]
theorem key_ev (p day : Int) (l : List S39) (hd : 0 ≤ day ∧ day ≤ 3000) (ha : ∀ x ∈ l, rOk x.f0 x.f1 x.f2 = true) (y : Nat) (hy : y < l.length) :
    (spec_rdFree.f ((rd_T39 l (y : Int)).f0) ((rd_T39 l (y : Int)).f1) ((rd_T39 l (y : Int)).f2) day).bind (fun t => spec_l1Least.f p t) = some (ky p day l y) := by
  rw [rd26_nat l y hy, spec_rdFree_eq (ha _ (List.getElem_mem hy)) day (by omega), Option.bind_some]
  have e : ky p day l y = min p (aft l[y].f0 l[y].f1 l[y].f2 day) := by
    show impl_OrderOnDay.key p l day y = _
    unfold impl_OrderOnDay.key impl_OrderOnDay.aft aft nread
    rw [List.getD_eq_getElem?_getD, List.getElem?_eq_getElem hy]
    rfl
  rw [e]
  simp only [spec_l1Least.f]
  split
  · congr 1; omega
  · congr 1; omega
def co (r : List Nat) : List Int := r.reverse.map fun (i : Nat) => (i : Int)
theorem co_len (r : List Nat) : (co r).length = r.length := by simp [co]
theorem inner (p day : Int) (l : List S39) (hd : 0 ≤ day ∧ day ≤ 3000) (h6 : l.length ≤ 6) (ha : ∀ x ∈ l, rOk x.f0 x.f1 x.f2 = true) (x : Nat) (hx : x < l.length) {r : List Int × Bool} : ∀ (q s : List Nat), (∀ y ∈ s ++ q, y < l.length) → (s ++ q).length ≤ 6 →
    Ev (fun k => spec_OrderOnDay.l0 k p l day (co (s ++ impl_OrderOnDay.ins (lt_ p day l) x q)) (l.length : Int) ((x + 1 : Nat) : Int)) r →
    Ev (fun k => spec_OrderOnDay.l1 k p l day (co (s ++ q)) (x : Int) (q.length : Int) (l.length : Int) (x : Int)) r := by
  have stop : ∀ (q s : List Nat), (s ++ q).length ≤ 6 → (spec_l1Own.f ((co (s ++ q)).take (q.length : Int).toNat)) = some (co q) ∧ (co q ++ [(x : Int)]) ++ (co (s ++ q)).drop (q.length : Int).toNat = co (s ++ x :: q) := by
    intro q s h
    have e : co (s ++ q) = co q ++ co s := by simp [co]
    have e2 : co (s ++ x :: q) = co q ++ [(x : Int)] ++ co s := by simp [co]
    have hl : (co q).length = q.length := co_len q
    rw [List.length_append] at h
    rw [e, e2, Int.toNat_natCast, List.take_left' hl, List.drop_left' hl]
    exact ⟨own_eq _ (by omega), rfl⟩
  intro q
  induction q with
  | nil =>
    intro s hs h6s h
    obtain ⟨e1, e2⟩ := stop [] s h6s
    refine ev_succ ?_
    simp only [spec_OrderOnDay.l1]
    refine ev_else (by simp) ?_
    refine ev_if (by omega) ?_
    refine ev_if (by simp) ?_
    refine ev_some e1 ?_
    refine ev_if (by simp [co]) ?_
    simp only [Option.bind_some]
    refine ev_if (by rw [List.length_append, List.length_drop, co_len, co_len]; simp at h6s ⊢; omega) ?_
    rw [e2, w64s (i := x) (by omega)]
    exact h
  | cons y t ih =>
    intro s hs h6s h
    have hy : y < l.length := hs y (by simp)
    have hrd : rd (co (s ++ y :: t)) (t.length : Int) = (y : Int) := by
      rw [rd_nat _ _ (by rw [co_len, List.length_append, List.length_cons]; omega)]
      have e : co (s ++ y :: t) = co t ++ ((y : Int) :: co s) := by simp [co]
      simp only [e]
      rw [List.getElem_append_right (by rw [co_len]; omega)]
      simp [co_len]
    have hw : wrap64 ((((y :: t).length : Nat) : Int) - 1) = (t.length : Int) := by
      rw [List.length_append, List.length_cons] at h6s
      rw [List.length_cons, w64 (by omega) (by omega)]
      omega
    obtain ⟨e1, e2⟩ := stop (y :: t) s h6s
    rw [impl_OrderOnDay.ins] at h
    refine ev_succ ?_
    simp only [spec_OrderOnDay.l1]
    rw [List.length_append, List.length_cons] at h6s
    refine ev_if (by rw [List.length_cons]; omega) ?_
    rw [hw]
    refine ev_if (by omega) ?_
    refine ev_if (by rw [co_len, List.length_append, List.length_cons]; omega) ?_
    rw [hrd]
    refine ev_if (by omega) ?_
    refine ev_if (by omega) ?_
    obtain ⟨fy, y1, y2⟩ := Option.bind_eq_some_iff.1 (key_ev p day l hd ha y hy)
    obtain ⟨fx, x1, x2⟩ := Option.bind_eq_some_iff.1 (key_ev p day l hd ha x hx)
    refine ev_some y1 ?_
    refine ev_some y2 ?_
    refine ev_if (by omega) ?_
    refine ev_if (by omega) ?_
    refine ev_some x1 ?_
    refine ev_some x2 ?_
    by_cases c : ky p day l y < ky p day l x
    · refine ev_if c ?_
      rw [if_pos (decide_eq_true c)] at h
      have := ih (s ++ [y]) (by simpa using hs) (by simp; omega) (by simpa using h)
      simpa using this
    · refine ev_else c ?_
      rw [if_neg (by simpa using c)] at h
      refine ev_if (by rw [List.length_cons]; omega) ?_
      refine ev_if (by rw [co_len, List.length_append, List.length_cons]; omega) ?_
      refine ev_some e1 ?_
      refine ev_if (by rw [co_len, List.length_cons]; omega) ?_
      simp only [Option.bind_some]
      refine ev_if (by rw [List.length_append, List.length_drop, co_len, co_len, List.length_append, List.length_cons, List.length_singleton]; omega) ?_
      rw [e2, w64s (i := x) (by omega)]
      exact h
def upto (p day : Int) (l : List S39) (i : Nat) : List Nat := (List.range i).foldl (fun r x => impl_OrderOnDay.ins (lt_ p day l) x r) []
theorem upto_succ (p day : Int) (l : List S39) (i : Nat) : upto p day l (i + 1) = impl_OrderOnDay.ins (lt_ p day l) i (upto p day l i) := by
  unfold upto
  rw [List.range_succ, List.foldl_append]
  rfl
theorem mem_ins {lt : Nat → Nat → Bool} {x z : Nat} : ∀ {r : List Nat}, z ∈ impl_OrderOnDay.ins lt x r → z = x ∨ z ∈ r
  | [], h => .inl (by simpa [impl_OrderOnDay.ins] using h)
  | y :: t, h => by
    rw [impl_OrderOnDay.ins] at h
    split at h
    · rcases List.mem_cons.1 h with h | h
      · exact .inr (by simp [h])
      · rcases mem_ins h with h | h
        · exact .inl h
        · exact .inr (by simp [h])
    · rcases List.mem_cons.1 h with h | h
      · exact .inl h
      · exact .inr h
theorem upto_lt (p day : Int) (l : List S39) : ∀ (i : Nat), ∀ z ∈ upto p day l i, z < i
  | 0, z, h => by simp [upto] at h
  | i + 1, z, h => by
    rw [upto_succ] at h
    rcases mem_ins h with h | h
    · omega
    · have := upto_lt p day l i z h
      omega
theorem upto_len (p day : Int) (l : List S39) : ∀ i : Nat, (upto p day l i).length = i
  | 0 => rfl
  | i + 1 => by rw [upto_succ, impl_OrderOnDay.ins_len, upto_len p day l i]
theorem outer (p day : Int) (l : List S39) (hd : 0 ≤ day ∧ day ≤ 3000) (h6 : l.length ≤ 6) (ha : ∀ x ∈ l, rOk x.f0 x.f1 x.f2 = true) : ∀ (d i : Nat), i + d = l.length →
    Ev (fun k => spec_OrderOnDay.l0 k p l day (co (upto p day l i)) (l.length : Int) (i : Int)) (co (upto p day l l.length), true) := by
  intro d
  induction d with
  | zero =>
    intro i h
    obtain rfl : i = l.length := by omega
    refine ev_succ ?_
    simp only [spec_OrderOnDay.l0]
    refine ev_else (by omega) ?_
    exact Ev.now _
  | succ d ih =>
    intro i h
    refine ev_succ ?_
    simp only [spec_OrderOnDay.l0]
    refine ev_if (by omega) ?_
    have h1 := ih (i + 1) (by omega)
    rw [upto_succ] at h1
    have := inner p day l hd h6 ha i (by omega) (upto p day l i) [] (fun y hy => by have := upto_lt p day l i y (by simpa using hy); omega) (by rw [List.nil_append, upto_len]; omega) (by simpa using h1)
    rw [co_len]
    simpa using this
theorem ord_eq (p day : Int) (l : List S39) : impl_OrderOnDay.ord p l day = co (upto p day l l.length) := rfl
theorem same (p : Int) (l : List S39) (day : Int) (hl : l.length ≤ 1048576) : ∃ r : List Int × Bool, Ev (fun k => spec_OrderOnDay.f k p l day) r ∧ impl_OrderOnDay.f p l day = some r ∧ r.1.length ≤ 1048576 := by
  have s0 : Ev (fun k => spec_OrderOnDay.j0 k p l day true) ([], false) := by
    refine ev_succ ?_
    simp only [spec_OrderOnDay.j0, if_true]
    exact Ev.now _
  have hs := spec_rdAll_ev p l hl
  have hb := book_all p l
  obtain ⟨b, hib⟩ : ∃ b, impl_areReadersOf.f p l = some b := ⟨_, rfl⟩
  rw [hib, Option.bind_some] at hb
  injection hb with hb
  rw [← hb] at hs
  have hday : impl_isDays.f day = some (decide (0 ≤ day ∧ day ≤ 3000)) := by simp only [impl_isDays.f, impl_within_eq, Option.bind_some]
  have hsd : spec_rdDay.f day = some (decide (0 ≤ day ∧ day ≤ 3000)) := by simp only [spec_rdDay.f, spec_l1In_eq, Option.bind_some]
  by_cases c : (b && decide (1 ≤ (l.length : Int) ∧ (l.length : Int) ≤ 6)) = true
  · obtain ⟨c1, c2⟩ := (Bool.and_eq_true _ _).mp c
    have c3 := of_decide_eq_true c2
    rw [c] at hb hs
    have hall : ∀ x ∈ l, rBook p x.f0 x.f1 x.f2 = true := by
      have h2 := hb.symm
      rw [Bool.and_eq_true, List.all_eq_true] at h2
      exact h2.2
    have hp : 1 ≤ p ∧ p ≤ 2000 := by
      have hz : 0 < l.length := by omega
      exact (rBook_is (hall l[0] (List.getElem_mem hz))).1
    by_cases e : 0 ≤ day ∧ day ≤ 3000
    · refine ⟨(impl_OrderOnDay.ord p l day, true), ?_, ?_, ?_⟩
      · simp only [spec_OrderOnDay.f]
        refine Ev.bind hs ?_
        simp only [if_true]
        refine ev_some hsd ?_
        rw [decide_eq_true e]
        refine ev_succ ?_
        simp only [spec_OrderOnDay.j0, Bool.not_true, Bool.false_eq_true, if_false]
        rw [ord_eq]
        exact outer p day l e (by omega) (fun x hx => (rBook_is (hall x hx)).2.1) l.length 0 (by omega)
      · unfold impl_OrderOnDay.f
        rw [hib, Option.bind_some, c1, if_pos rfl, impl_isGroup_eq, Option.bind_some, c2, if_pos rfl, hday, Option.bind_some, decide_eq_true e, if_pos rfl, if_pos]
        refine ⟨by omega, e, by omega, ?_⟩
        rw [List.all_eq_true]
        intro x hx
        rw [goodR_eq]
        exact (rBook_is (hall x hx)).2.1
      · show (impl_OrderOnDay.ord p l day).length ≤ _
        rw [impl_OrderOnDay.ord_len]
        exact hl
    · refine ⟨([], false), ?_, ?_, by simp⟩
      · simp only [spec_OrderOnDay.f]
        refine Ev.bind hs ?_
        simp only [if_true]
        refine ev_some hsd ?_
        rw [decide_eq_false e]
        exact s0
      · unfold impl_OrderOnDay.f
        rw [hib, Option.bind_some, c1, if_pos rfl, impl_isGroup_eq, Option.bind_some, c2, if_pos rfl, hday, Option.bind_some, decide_eq_false e, if_neg (by simp)]
  · have c' : (b && decide (1 ≤ (l.length : Int) ∧ (l.length : Int) ≤ 6)) = false := by simpa using c
    rw [c'] at hs
    refine ⟨([], false), ?_, ?_, by simp⟩
    · simp only [spec_OrderOnDay.f]
      refine Ev.bind hs ?_
      simp only [Bool.false_eq_true, if_false]
      exact s0
    · unfold impl_OrderOnDay.f
      rw [hib, Option.bind_some]
      cases b with
      | false => rw [if_neg (by simp)]
      | true =>
        rw [Bool.true_and] at c'
        rw [if_pos rfl, impl_isGroup_eq, Option.bind_some, c', if_neg (by simp)]
theorem FnExactOrderOnDay : ∀ (a0 : Int) (l1 : List S42) (a2 : Int), (Lit.int .i64 a0).wf = true → l1.length ≤ maxLen → (∀ x ∈ l1, (Lit.int .i64 x.f0).wf = true ∧ (Lit.int .i64 x.f1).wf = true ∧ (Lit.int .i64 x.f2).wf = true) → (Lit.int .i64 a2).wf = true → ∃ k, laws_FnExactOrderOnDay.f k a0 l1 a2 = some true := by
  intro a0 l1 a2 w0 hm hw w2
  refine Ev.rounds (r := true) ?_
  by_cases c : l1.length ≤ 1048576
  · obtain ⟨r, h1, h2', hr⟩ := same a0 (rdrs l1) a2 (by rw [rdrs_len]; exact c)
    have h2 : Ev (fun _ => impl_OrderOnDay.f a0 (rdrs l1) a2) r := by rw [h2']; exact Ev.now _
    have ht := laws_toReaderS_ev l1 c
    have he := laws_eqReaderS_ev (rdrs l1) (by rw [rdrs_len]; omega)
    obtain ⟨q, hq⟩ := laws_markReaderS_ev (rdrs l1) (by rw [rdrs_len]; exact c)
    have hn : ¬ (1 + 3 * ((rdrs l1).length : Int) < 0) := by omega
    simp only [laws_FnExactOrderOnDay.f, laws_szReaderS_ok l1 c, Option.bind_some]
    refine ev_else (by omega) ?_
    repeat (first
      | exact Ev.now _
      | (dsimp only)
      | (with_reducible refine Ev.bind h1 ?_)
      | (with_reducible refine Ev.bind h2 ?_)
      | (with_reducible refine Ev.bind ht ?_)
      | (with_reducible refine Ev.bind he ?_)
      | (with_reducible refine Ev.bind hq ?_)
      | (refine ev_else hn ?_)
      | (with_reducible refine Ev.bind (laws_eqIntS_ev _ _ (by omega)) ?_)
      | (with_reducible refine Ev.bind (laws_markIntS_ev _ (by omega)) ?_)
      | (with_reducible refine Ev.bind (laws_heldIntS_ev _ (by omega)) ?_)
      | (simp only [decide_true, if_true, bne_self_eq_false, Bool.false_eq_true, if_false, neg_no])
      | (refine ev_succ ?_; simp only [laws_FnExactOrderOnDay.j0, laws_FnExactOrderOnDay.j1, laws_FnExactOrderOnDay.j2]))
  · simp only [laws_FnExactOrderOnDay.f, laws_szReaderS_no l1 c hm, Option.bind_some]
    exact ev_if (by omega) (Ev.now _)

end Go.Proofs.Ytpakdddehianmaa.Pure
