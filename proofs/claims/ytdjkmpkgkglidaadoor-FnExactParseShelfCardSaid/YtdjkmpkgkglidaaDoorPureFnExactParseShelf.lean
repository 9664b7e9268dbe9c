/- The plain law behind FnExactParseShelf, in lists and numbers alone: the program's and the reference's shelf with a text are one. No condition beyond the printed bounds. -/
import Derived.Test.YtdjkmpkgkglidaaDoorXFnExactParseShelfx4
set_option linter.unusedVariables false
set_option linter.unusedSimpArgs false
namespace Go.Proofs.YtdjkmpkgkglidaaDoor.Pure
open Go.RowKit Go.Proofs.YtdjkmpkgkglidaaDoor.XFnExactParseShelf Go.Proofs.YtdjkmpkgkglidaaDoorW.PrintWords Go.Proofs.YtdjkmpkgkglidaaDoorW.PrintLast Go.Proofs.YtdjkmpkgkglidaaDoorW.PrintMore
/-! ### Small words: rounds, reads, sums without a wrap. -/
theorem ev_some {α β : Type} {g : Option α} {f : Nat → α → Option β} {a : α} {r : β} (h : g = some a) (k : Ev (fun n => f n a) r) : Ev (fun n => g.bind (f n)) r := by
  subst h
  exact k
theorem ev_ret {α : Type} {r s : α} (h : r = s) : Ev (fun _ => some r) s := by
  subst h
  exact Ev.now r
theorem ev_map {α β : Type} {g : Nat → Option α} {f : α → β} {a : α} {r : β} (h : Ev g a) (e : f a = r) : Ev (fun n => (g n).bind fun t => some (f t)) r := Ev.bind h (ev_ret e)
theorem ev_eq {α : Type} {g f : Nat → Option α} {r : α} (h : g = f) (k : Ev f r) : Ev g r := by
  rw [h]
  exact k
theorem w64 {x : Int} (h0 : -9223372036854775808 ≤ x) (h1 : x ≤ 9223372036854775807) : wrap64 x = x := by
  unfold wrap64
  omega
theorem w64s {i : Nat} (h : i < 4611686018427387904) : wrap64 ((i : Int) + 1) = ((i + 1 : Nat) : Int) := by
  rw [w64 (by omega) (by omega)]
  rfl
theorem rd_nat (l : List Int) (i : Nat) (h : i < l.length) : rd l (i : Int) = l[i] := by
  unfold rd
  rw [Int.toNat_natCast, List.getD_eq_getElem?_getD, List.getElem?_eq_getElem h]
  rfl
theorem wf_i64 {x : Int} (h : (Lit.int .i64 x).wf = true) : -9223372036854775808 ≤ x ∧ x ≤ 9223372036854775807 := by
  simp only [Lit.wf, Bool.and_eq_true, decide_eq_true_eq] at h
  exact h
theorem ev_succ {α : Type} {g : Nat → Option α} {r : α} (h : Ev (fun k => g (k + 1)) r) : Ev g r := Ev.step (fun _ => rfl) h
theorem neg_no (n : Nat) : ¬ (1 + (n : Int) < 0) := by omega
theorem ev_if {α : Type} {c : Prop} [Decidable c] {g f : Nat → Option α} {r : α} (h : c) (k : Ev g r) : Ev (fun n => if c then g n else f n) r := Ev.congr (fun _ => if_pos h) k
theorem ev_else {α : Type} {c : Prop} [Decidable c] {g f : Nat → Option α} {r : α} (h : ¬ c) (k : Ev f r) : Ev (fun n => if c then g n else f n) r := Ev.congr (fun _ => if_neg h) k

theorem laws_eqIntS_ev (a b : List Int) (hl : a.length ≤ 4611686018427387903) : Ev (fun k => laws_eqIntS.f k a b) (decide (a = b)) := by
  by_cases hlen : a.length = b.length
  · have key : ∀ (d i : Nat), i + d = a.length → Ev (fun k => laws_eqIntS.l0 k a b (i : Int)) (decide (a.drop i = b.drop i)) := by
      intro d
      induction d with
      | zero =>
        intro i h
        rw [List.drop_eq_nil_of_le (by omega), List.drop_eq_nil_of_le (by omega)]
        refine ev_succ ?_
        simp only [laws_eqIntS.l0]
        refine ev_else (by omega) ?_
        exact ev_ret (by simp)
      | succ d ih =>
        intro i h
        have h1 : i < a.length := by omega
        have h2 : i < b.length := by omega
        rw [List.drop_eq_getElem_cons h1, List.drop_eq_getElem_cons h2]
        refine Ev.step (f := fun k => if a[i] = b[i] then laws_eqIntS.l0 k a b ((i + 1 : Nat) : Int) else some false) (fun k => by simp only [laws_eqIntS.l0]; rw [if_pos (by omega), if_pos (by omega), if_pos (by omega), rd_nat a i h1, rd_nat b i h2, w64s (by omega)]) ?_
        by_cases c : a[i] = b[i]
        · simp only [c, if_true, List.cons.injEq, true_and]
          exact ih (i + 1) (by omega)
        · simp only [c, if_false, List.cons.injEq, false_and, decide_false]
          exact Ev.now _
    refine ev_eq (f := fun k => laws_eqIntS.l0 k a b ((0 : Nat) : Int)) ?_ (key a.length 0 (by omega))
    funext k
    simp only [laws_eqIntS.f]
    rw [if_pos (by omega)]
    rfl
  · refine ev_eq (f := fun _ => some false) ?_ (ev_ret (by simp; intro h; exact hlen (by rw [h])))
    funext k
    simp only [laws_eqIntS.f]
    rw [if_neg (by omega)]

theorem spec_l1In_eq (x lo hi : Int) : spec_l1In.f x lo hi = some (decide (lo ≤ x ∧ x ≤ hi)) := by
  unfold spec_l1In.f
  by_cases c : x ≥ lo
  · rw [if_pos c]
    congr 1
    simp only [c, true_and]
  · rw [if_neg c]
    congr 1
    exact (decide_eq_false (fun h => c h.1)).symm

theorem spec_l1All_ev (lo hi : Int) (l : List Int) (hl : l.length ≤ 4611686018427387903) : Ev (fun k => spec_l1All.f k l lo hi) (l.all fun x => decide (lo ≤ x ∧ x ≤ hi)) := by
  have key : ∀ (d i : Nat), i + d = l.length → Ev (fun k => spec_l1All.l0 k lo hi l (l.length : Int) (i : Int)) ((l.drop i).all fun x => decide (lo ≤ x ∧ x ≤ hi)) := by
    intro d
    induction d with
    | zero =>
      intro i h
      rw [List.drop_eq_nil_of_le (by omega)]
      exact Ev.step (f := fun _ => some true) (fun k => by simp only [spec_l1All.l0]; rw [if_neg (by omega)]) (Ev.now _)
    | succ d ih =>
      intro i h
      have hi' : i < l.length := by omega
      rw [List.drop_eq_getElem_cons hi', List.all_cons]
      refine Ev.step (f := fun k => (spec_l1In.f l[i] lo hi).bind fun t => if t = true then spec_l1All.l0 k lo hi l (l.length : Int) ((i + 1 : Nat) : Int) else some false) (fun k => by simp only [spec_l1All.l0]; rw [if_pos (by omega), if_pos (by omega), if_pos (by omega), rd_nat l i hi', w64s (by omega)]) ?_
      refine ev_some (spec_l1In_eq _ _ _) ?_
      by_cases c : lo ≤ l[i] ∧ l[i] ≤ hi
      · simp only [c, and_self, decide_true, if_true, Bool.true_and]
        exact ih (i + 1) (by omega)
      · simp only [c, decide_false, Bool.false_and, Bool.false_eq_true, if_false]
        exact Ev.now _
  exact key l.length 0 (by omega)

theorem impl_within_eq (x lo hi : Int) : impl_within.f x lo hi = some (decide (lo ≤ x ∧ x ≤ hi)) := by
  unfold impl_within.f
  by_cases c : x ≥ lo
  · rw [if_pos c]
    congr 1
    simp only [c, true_and]
  · rw [if_neg c]
    congr 1
    exact (decide_eq_false (fun h => c h.1)).symm

theorem impl_allWithin_ev (lo hi : Int) (l : List Int) (hl : l.length ≤ 4611686018427387903) : Ev (fun k => impl_allWithin.f k l lo hi) (l.all fun x => decide (lo ≤ x ∧ x ≤ hi)) := by
  have key : ∀ (d i : Nat), i + d = l.length → Ev (fun k => impl_allWithin.l0 k lo hi l (l.length : Int) (i : Int)) ((l.drop i).all fun x => decide (lo ≤ x ∧ x ≤ hi)) := by
    intro d
    induction d with
    | zero =>
      intro i h
      rw [List.drop_eq_nil_of_le (by omega)]
      exact Ev.step (f := fun _ => some true) (fun k => by simp only [impl_allWithin.l0]; rw [if_neg (by omega)]) (Ev.now _)
    | succ d ih =>
      intro i h
      have hi' : i < l.length := by omega
      rw [List.drop_eq_getElem_cons hi', List.all_cons]
      refine Ev.step (f := fun k => (impl_within.f l[i] lo hi).bind fun t => if t = true then impl_allWithin.l0 k lo hi l (l.length : Int) ((i + 1 : Nat) : Int) else some false) (fun k => by simp only [impl_allWithin.l0]; rw [if_pos (by omega), if_pos (by omega), if_pos (by omega), rd_nat l i hi', w64s (by omega)]) ?_
      refine ev_some (impl_within_eq _ _ _) ?_
      by_cases c : lo ≤ l[i] ∧ l[i] ≤ hi
      · simp only [c, and_self, decide_true, if_true, Bool.true_and]
        exact ih (i + 1) (by omega)
      · simp only [c, decide_false, Bool.false_and, Bool.false_eq_true, if_false]
        exact Ev.now _
  exact key l.length 0 (by omega)

theorem laws_eqShelf_ev (l : List Int) (c : Int) (h : l.length ≤ 1048576) : Ev (fun k => laws_eqShelf.f k l c l c) true := by
  simp only [laws_eqShelf.f]
  refine Ev.bind (laws_eqIntS_ev l l (by omega)) ?_
  simp only [decide_true, if_true]
  exact Ev.now _
def shOk (l : List Int) (c : Int) : Bool := decide (1 ≤ (l.length : Int) ∧ (l.length : Int) ≤ 8) && ((l.all fun x => decide (1 ≤ x ∧ x ≤ 100)) && decide (0 ≤ c ∧ c ≤ 10))
theorem shOk_len {l : List Int} {c : Int} (h : shOk l c = true) : 1 ≤ l.length ∧ l.length ≤ 8 := by
  simp only [shOk, Bool.and_eq_true, decide_eq_true_eq] at h
  omega
theorem shOk_all {l : List Int} {c : Int} (h : shOk l c = true) : ∀ x ∈ l, 1 ≤ x ∧ x ≤ 100 := by
  simp only [shOk, Bool.and_eq_true, List.all_eq_true, decide_eq_true_eq] at h
  exact h.2.1
theorem shOk_cover {l : List Int} {c : Int} (h : shOk l c = true) : 0 ≤ c ∧ c ≤ 10 := by
  simp only [shOk, Bool.and_eq_true, decide_eq_true_eq] at h
  exact h.2.2
theorem spec_shGood_ev (l : List Int) (c : Int) (hl : l.length ≤ 1048576) : Ev (fun k => spec_shGood.f k l c) (shOk l c) := by
  simp only [spec_shGood.f, shOk]
  refine ev_some (spec_l1In_eq _ _ _) ?_
  by_cases a : 1 ≤ (l.length : Int) ∧ (l.length : Int) ≤ 8
  · simp only [a, and_self, decide_true, if_true, Bool.true_and]
    refine Ev.bind (spec_l1All_ev 1 100 l (by omega)) ?_
    by_cases b : (l.all fun x => decide (1 ≤ x ∧ x ≤ 100)) = true
    · simp only [b, if_true, Bool.true_and]
      refine ev_some (spec_l1In_eq _ _ _) ?_
      exact Ev.now _
    · simp only [b, Bool.false_eq_true, if_false, Bool.false_and]
      exact Ev.now _
  · simp only [a, decide_false, Bool.false_and, Bool.false_eq_true, if_false]
    exact Ev.now _
theorem impl_IsShelf_ev (l : List Int) (c : Int) (hl : l.length ≤ 1048576) : Ev (fun k => impl_IsShelf.f k l c) (shOk l c) := by
  simp only [impl_IsShelf.f, shOk]
  refine ev_some (impl_within_eq _ _ _) ?_
  by_cases a : 1 ≤ (l.length : Int) ∧ (l.length : Int) ≤ 8
  · simp only [a, and_self, decide_true, if_true, Bool.true_and]
    refine Ev.bind (impl_allWithin_ev 1 100 l (by omega)) ?_
    by_cases b : (l.all fun x => decide (1 ≤ x ∧ x ≤ 100)) = true
    · simp only [b, if_true, Bool.true_and]
      refine ev_some (impl_within_eq _ _ _) ?_
      exact Ev.now _
    · simp only [b, Bool.false_eq_true, if_false, Bool.false_and]
      exact Ev.now _
  · simp only [a, decide_false, Bool.false_and, Bool.false_eq_true, if_false]
    exact Ev.now _

theorem set_app {α : Type} (a b : List α) (x y : α) (n : Nat) (h : n = a.length) : (a ++ x :: b).set n y = a ++ y :: b := by
  subst h
  simp

def marked (m : Int) (n : Nat) : List Int := (List.range n).map fun (j : Nat) => m + (j : Int)
theorem marked_succ (m : Int) (n : Nat) : marked m (n + 1) = marked m n ++ [m + (n : Int)] := by
  unfold marked
  rw [List.range_succ]
  simp
theorem marked_len (m : Int) (n : Nat) : (marked m n).length = n := by simp [marked]
theorem laws_markIntS_ev (l : List Int) (hl : l.length ≤ 1048576) : Ev (fun k => laws_markIntS.f k l 1) (1 + (l.length : Int), marked 1 l.length) := by
  have key : ∀ (d i : Nat), i + d = l.length → Ev (fun k => laws_markIntS.l0 k (marked 1 i ++ l.drop i) (1 + (i : Int)) (i : Int)) (1 + (l.length : Int), marked 1 l.length) := by
    intro d
    induction d with
    | zero =>
      intro i h
      obtain rfl : i = l.length := by omega
      refine ev_succ ?_
      simp only [laws_markIntS.l0]
      refine ev_else (by simp [marked_len]) ?_
      refine ev_ret ?_
      simp
    | succ d ih =>
      intro i h
      have h1 : i < l.length := by omega
      refine Ev.step (f := fun k => laws_markIntS.l0 k (marked 1 (i + 1) ++ l.drop (i + 1)) (1 + ((i + 1 : Nat) : Int)) ((i + 1 : Nat) : Int)) (fun k => ?_) (ih (i + 1) (by omega))
      simp only [laws_markIntS.l0]
      rw [if_pos (by simp [marked_len]; omega), if_pos (by omega), w64s (by omega), Int.toNat_natCast, List.drop_eq_getElem_cons h1, set_app _ _ _ _ _ (by simp [marked_len]), w64 (by omega) (by omega), marked_succ]
      simp only [List.append_assoc, List.singleton_append, Int.natCast_succ, Int.add_assoc]
  refine ev_eq (f := fun k => laws_markIntS.l0 k (marked 1 0 ++ l.drop 0) (1 + ((0 : Nat) : Int)) ((0 : Nat) : Int)) ?_ (key l.length 0 (by omega))
  funext k
  simp only [laws_markIntS.f]
  simp [marked]
theorem laws_heldIntS_ev (n : Nat) (hl : n ≤ 1048576) : Ev (fun k => laws_heldIntS.f k (marked 1 n) 1) (1 + (n : Int)) := by
  have key : ∀ (d i : Nat), i + d = n → Ev (fun k => laws_heldIntS.l0 k (marked 1 n) (1 + (i : Int)) (i : Int)) (1 + (n : Int)) := by
    intro d
    induction d with
    | zero =>
      intro i h
      obtain rfl : i = n := by omega
      refine ev_succ ?_
      simp only [laws_heldIntS.l0]
      refine ev_else (by simp [marked_len]) ?_
      exact ev_ret rfl
    | succ d ih =>
      intro i h
      refine Ev.step (f := fun k => laws_heldIntS.l0 k (marked 1 n) (1 + ((i + 1 : Nat) : Int)) ((i + 1 : Nat) : Int)) (fun k => ?_) (ih (i + 1) (by omega))
      simp only [laws_heldIntS.l0]
      rw [if_pos (by simp [marked_len]; omega), if_pos (by omega), rd_nat _ i (by simp [marked_len]; omega), if_pos (by simp [marked]), w64s (by omega), w64 (by omega) (by omega)]
      simp only [Int.natCast_succ, Int.add_assoc]
  refine ev_eq (f := fun k => laws_heldIntS.l0 k (marked 1 n) (1 + ((0 : Nat) : Int)) ((0 : Nat) : Int)) ?_ (key n 0 (by omega))
  funext k
  simp only [laws_heldIntS.f]
  simp

theorem laws_markShelf_ev (l : List Int) (c : Int) (hl : l.length ≤ 1048576) : Ev (fun k => laws_markShelf.f k l c 1) (1 + (l.length : Int), marked 1 l.length) := by
  simp only [laws_markShelf.f]
  exact ev_map (laws_markIntS_ev l hl) rfl

/-- A number's digits, as a text. -/
def numT (n : Nat) : ByteArray := ⟨(Go.Lib.decDigits n).toArray⟩
theorem numT_size (n : Nat) : (numT n).size = (Go.Lib.decDigits n).length := by simp [numT, ByteArray.size]
theorem dec_len : ∀ (j n : Nat), 1 ≤ j → n < 10 ^ j → (Go.Lib.decDigits n).length ≤ j
  | 0, _, h, _ => by omega
  | j + 1, n, _, h => by
    rw [Go.Lib.decDigits]
    by_cases c : n < 10
    · rw [dif_pos c]; simp
    · rw [dif_neg c, List.length_append, List.length_singleton]
      have hj : 1 ≤ j := by
        rcases Nat.eq_zero_or_pos j with z | z
        · subst z; simp at h; omega
        · exact z
      have := dec_len j (n / 10) hj (by rw [Nat.pow_succ] at h; omega)
      omega
theorem numT_le (n : Nat) (h : n ≤ 1000000) : 1 ≤ (numT n).size ∧ (numT n).size ≤ 21 := by
  rw [numT_size]
  refine ⟨?_, ?_⟩
  · rw [Go.Lib.decDigits]
    split <;> simp
  · have := dec_len 7 n (by omega) (by omega)
    omega
theorem ba_ext {x y : ByteArray} (h : x.data.toList = y.data.toList) : x = y := by
  cases x; cases y
  congr 1
  exact Array.toList_inj.1 h
theorem itoa_is (n : Nat) (h : n ≤ 1000000) : strconv_Itoa.f (n : Int) = some (numT n) := by
  unfold strconv_Itoa.f
  rw [if_pos (by omega), Go.Lib.itoa_nonneg]
  rfl
theorem dec_big {n : Nat} (c : ¬ n < 10) : Go.Lib.decDigits n = Go.Lib.decDigits (n / 10) ++ [UInt8.ofNat (48 + n % 10)] := by
  rw [Go.Lib.decDigits, dif_neg c]

/-- A number's digits, as a list of bytes. -/
def digs (x : Int) : List UInt8 := Go.Lib.decDigits x.toNat
theorem numT_digs (n : Nat) : (numT n).data.toList = digs (n : Int) := by simp [numT, digs]
/-- The elements, joined by commas. -/
def comL (l : List Int) : List UInt8 := Go.Lib.join (l.map digs) [44]
theorem comL_one (x : Int) : comL [x] = digs x := Go.Lib.join_one _ _
theorem joinTail_snoc (sep : List UInt8) (r : List (List UInt8)) (y : List UInt8) : Go.Lib.joinTail sep (r ++ [y]) = Go.Lib.joinTail sep r ++ sep ++ y := by
  simp [Go.Lib.joinTail, List.append_assoc]
theorem comL_snoc (a : Int) (l : List Int) (x : Int) : comL (a :: l ++ [x]) = comL (a :: l) ++ [44] ++ digs x := by
  unfold comL
  simp only [List.cons_append, List.map_cons, List.map_append, List.map_nil]
  rw [Go.Lib.join_cons, Go.Lib.join_cons, joinTail_snoc]
  simp [List.append_assoc]
theorem digs_le (x : Int) (h : x ≤ 1000000) : (digs x).length ≤ 21 := by
  have := numT_le x.toNat (by omega)
  rw [numT_size] at this
  exact this.2
theorem joinTail_le (r : List Int) (h : ∀ x ∈ r, x ≤ 1000000) : (Go.Lib.joinTail [44] (r.map digs)).length ≤ 22 * r.length := by
  induction r with
  | nil => simp [Go.Lib.joinTail]
  | cons y r ih =>
    have h1 := ih (fun x hx => h x (List.mem_cons_of_mem _ hx))
    have h2 := digs_le y (h y (List.mem_cons_self))
    simp only [Go.Lib.joinTail, List.map_cons, List.flatten_cons, List.length_append, List.length_cons, List.length_nil] at h1 ⊢
    omega
theorem comL_le (l : List Int) (h : ∀ x ∈ l, x ≤ 1000000) : (comL l).length ≤ 22 * l.length := by
  cases l with
  | nil => simp [comL, Go.Lib.join_nil]
  | cons a l =>
    unfold comL
    rw [List.map_cons, Go.Lib.join_cons, List.length_append, List.length_cons]
    have h1 := joinTail_le l (fun x hx => h x (List.mem_cons_of_mem _ hx))
    have h2 := digs_le a (h a (List.mem_cons_self))
    omega
def comT (l : List Int) : ByteArray := ⟨(comL l).toArray⟩
theorem comT_size (l : List Int) : (comT l).size = (comL l).length := by simp [comT, ByteArray.size]
/-- The text of a shelf. -/
def shT (l : List Int) (c : Nat) : ByteArray := comT l ++ ⟨#[99]⟩ ++ numT c
theorem sz44 : (ByteArray.mk #[44]).size = 1 := rfl
theorem sz99 : (ByteArray.mk #[99]).size = 1 := rfl
theorem ba_app (x y : ByteArray) : (x ++ y).data.toList = x.data.toList ++ y.data.toList := by
  show (x.append y).data.toList = _
  simp [ByteArray.append, ByteArray.copySlice, ByteArray.size]
theorem comT_snoc (a : Int) (l : List Int) (x : Nat) : comT (a :: l ++ [(x : Int)]) = comT (a :: l) ++ ⟨#[44]⟩ ++ numT x := by
  apply ba_ext
  rw [ba_app, ba_app, numT_digs]
  show comL _ = comL _ ++ [44] ++ _
  exact comL_snoc a l x
theorem comT_take (l : List Int) (i : Nat) (h0 : 0 < i) (hi : i < l.length) (x : Nat) (hx : l[i] = (x : Int)) : comT (l.take i) ++ ⟨#[44]⟩ ++ numT x = comT (l.take (i + 1)) := by
  cases l with
  | nil => simp at hi
  | cons a l =>
    obtain ⟨j, rfl⟩ : ∃ j, i = j + 1 := ⟨i - 1, by omega⟩
    rw [List.take_succ_cons, List.take_succ_cons, ← comT_snoc, List.cons_append, List.length_cons] at *
    congr 2
    rw [List.take_add_one, List.getElem?_eq_getElem (by omega)]
    rw [List.getElem_cons_succ] at hx
    rw [hx]
    rfl
theorem comT_le (l : List Int) (h : ∀ x ∈ l, x ≤ 1000000) (hl : l.length ≤ 8) : (comT l).size ≤ 176 := by
  have := comL_le l h
  rw [comT_size]
  omega
theorem impl_joined_ev (l : List Int) (ht : ∀ x ∈ l, 0 ≤ x ∧ x ≤ 1000000) (hl : l.length ≤ 8) : Ev (fun k => impl_joined.f k l (⟨#[44]⟩ : ByteArray)) (comT l) := by
  have fin : strings_Join.f (l.map fun x => numT x.toNat) (⟨#[44]⟩ : ByteArray) = some (comT l) := by
    have e : strings_Join.text (l.map fun x => numT x.toNat) (⟨#[44]⟩ : ByteArray) = comL l := by
      unfold strings_Join.text comL
      rw [List.map_map]
      congr 1
    unfold strings_Join.f
    have := comL_le l (fun x hx => (ht x hx).2)
    rw [e, if_pos ⟨by rw [List.length_map]; omega, by omega⟩]
    rfl
  have key : ∀ (d i : Nat), i + d = l.length → Ev (fun k => impl_joined.l0 k (⟨#[44]⟩ : ByteArray) ((l.take i).map fun x => numT x.toNat) l (l.length : Int) (i : Int)) (comT l) := by
    intro d
    induction d with
    | zero =>
      intro i h
      rw [List.take_of_length_le (by omega)]
      refine ev_succ ?_
      simp only [impl_joined.l0]
      refine ev_else (by omega) ?_
      refine ev_some fin ?_
      exact Ev.now _
    | succ d ih =>
      intro i h
      have hi : i < l.length := by omega
      obtain ⟨x, hx⟩ := Int.eq_ofNat_of_zero_le (ht l[i] (List.getElem_mem hi)).1
      have hb := (ht l[i] (List.getElem_mem hi)).2
      refine ev_succ ?_
      simp only [impl_joined.l0]
      refine ev_if (by omega) ?_
      refine ev_if (by omega) ?_
      refine ev_if (by omega) ?_
      simp only [rd_nat l i hi, hx, w64s (show i < 4611686018427387904 by omega)]
      refine ev_some (itoa_is x (by omega)) ?_
      refine ev_if (by rw [List.length_map, List.length_take]; omega) ?_
      have e : ((l.take i).map fun x => numT x.toNat) ++ [numT x] = (l.take (i + 1)).map fun x => numT x.toNat := by
        rw [List.take_add_one, List.getElem?_eq_getElem hi, hx, List.map_append]
        rfl
      rw [e]
      exact ih (i + 1) (by omega)
  exact key l.length 0 (by omega)
theorem impl_shelfText_ev (l : List Int) (c : Nat) (ht : ∀ x ∈ l, 0 ≤ x ∧ x ≤ 1000000) (hl : l.length ≤ 8) (hc : c ≤ 1000000) : Ev (fun k => impl_shelfText.f k l (c : Int)) (shT l c) := by
  have s1 := comT_le l (fun x hx => (ht x hx).2) hl
  have s2 := numT_le c hc
  simp only [impl_shelfText.f]
  refine Ev.bind (impl_joined_ev l ht hl) ?_
  refine ev_if (by omega) ?_
  refine ev_some (itoa_is c hc) ?_
  refine ev_if (by rw [ByteArray.size_append, sz99]; omega) ?_
  exact Ev.now _

/-! ### Texts as lists of bytes: splits, cuts, numbers read. -/
def mkT (l : List UInt8) : ByteArray := ⟨l.toArray⟩
theorem mkT_list (l : List UInt8) : (mkT l).data.toList = l := by simp [mkT]
theorem mkT_size (l : List UInt8) : (mkT l).size = l.length := by simp [mkT, ByteArray.size]
theorem mkT_of (s : ByteArray) : mkT s.data.toList = s := ba_ext (mkT_list _)
theorem size_len (s : ByteArray) : s.size = s.data.toList.length := by
  rw [Array.length_toList]
  rfl
theorem bt_nat (s : ByteArray) (i : Nat) (h : i < s.size) : bt s (i : Int) = ((s.data.toList[i]'(by rw [← size_len]; exact h)).toNat : Int) := by
  rw [← bt_at s (i : Int) (by simpa using h)]
  simp only [Int.toNat_natCast]
  rfl
theorem ext_list (s : ByteArray) (a b : Nat) : s.extract a b = mkT ((s.data.toList.drop a).take (b - a)) := by
  apply ba_ext
  rw [mkT_list]
  have := Go.Proofs.ext_win s a b
  rw [ByteArray.toList_eq] at this
  exact this
theorem ba_eq (x y : ByteArray) : x.toList = y.toList ↔ x = y := by
  rw [ByteArray.toList_eq, ByteArray.toList_eq]
  exact ⟨fun h => ba_ext h, fun h => by rw [h]⟩
/-- A text, split at each byte b. -/
def spL (b : Nat) : List UInt8 → List UInt8 → List (List UInt8)
  | acc, [] => [acc]
  | acc, c :: t => if c.toNat = b then acc :: spL b [] t else spL b (acc ++ [c]) t
theorem spL_pos (b : Nat) : ∀ (l acc : List UInt8), 1 ≤ (spL b acc l).length
  | [], _ => by simp [spL]
  | c :: t, acc => by
    rw [spL]
    split
    · simp
    · exact spL_pos b t _
theorem spL_le (b : Nat) : ∀ (l acc p : List UInt8), p ∈ spL b acc l → p.length ≤ acc.length + l.length
  | [], acc, p, h => by
    rw [spL, List.mem_singleton] at h
    rw [h]
    exact Nat.le_add_right _ _
  | c :: t, acc, p, h => by
    rw [spL] at h
    rw [List.length_cons]
    split at h
    · rcases List.mem_cons.1 h with h | h
      · rw [h]; omega
      · have := spL_le b t [] p h
        simp only [List.length_nil] at this
        omega
    · have := spL_le b t _ p h
      rw [List.length_append, List.length_singleton] at this
      omega
theorem txt_app (x y : ByteArray) : (x ++ y).data.toList = x.data.toList ++ y.data.toList := by
  show (x.append y).data.toList = _
  simp [ByteArray.append, ByteArray.copySlice, ByteArray.size]
theorem spL_none (b : Nat) : ∀ (l acc : List UInt8), (∀ c ∈ l, c.toNat ≠ b) → spL b acc l = [acc ++ l]
  | [], acc, _ => by simp [spL]
  | c :: t, acc, h => by
    rw [spL, if_neg (h c (List.mem_cons_self)), spL_none b t _ (fun x hx => h x (List.mem_cons_of_mem _ hx))]
    simp
theorem spL_hit (b : Nat) (c : UInt8) (hc : c.toNat = b) (y : List UInt8) : ∀ (x acc : List UInt8), (∀ c ∈ x, c.toNat ≠ b) → spL b acc (x ++ c :: y) = (acc ++ x) :: spL b [] y
  | [], acc, _ => by simp [spL, hc]
  | d :: t, acc, h => by
    rw [List.cons_append, spL, if_neg (h d (List.mem_cons_self)), spL_hit b c hc y t _ (fun x hx => h x (List.mem_cons_of_mem _ hx))]
    simp
theorem l1Split_ev (s : ByteArray) (b : Nat) (hs : s.size ≤ 1048576) : Ev (fun k => spec_l1Split.f k s (b : Int)) ((spL b [] s.data.toList).map mkT) := by
  have key : ∀ (d i a : Nat) (out : List ByteArray), i + d = s.size → a ≤ i → out.length ≤ a → Ev (fun k => spec_l1Split.l0 k s (b : Int) out (a : Int) (i : Int)) (out ++ (spL b ((s.data.toList.drop a).take (i - a)) (s.data.toList.drop i)).map mkT) := by
    intro d
    induction d with
    | zero =>
      intro i a out h ha ho
      refine ev_succ ?_
      simp only [spec_l1Split.l0]
      refine ev_else (by omega) ?_
      refine ev_if (by omega) ?_
      refine ev_if (by omega) ?_
      refine ev_if (by omega) ?_
      refine ev_ret ?_
      have hl := size_len s
      rw [List.drop_eq_nil_of_le (show s.data.toList.length ≤ i by omega), spL, Int.toNat_natCast, ext_list]
      rw [show s.size - a = i - a by omega]
      rfl
    | succ d ih =>
      intro i a out h ha ho
      have hi : i < s.size := by omega
      have hl := size_len s
      have hi' : i < s.data.toList.length := by omega
      refine ev_succ ?_
      simp only [spec_l1Split.l0]
      refine ev_if (by omega) ?_
      refine ev_if (by omega) ?_
      simp only [bt_nat s i hi, w64s (show i < 4611686018427387904 by omega)]
      rw [List.drop_eq_getElem_cons hi', spL]
      by_cases c : (s.data.toList[i]).toNat = b
      · refine ev_if (by omega) ?_
        refine ev_if (by omega) ?_
        refine ev_if (by omega) ?_
        refine ev_if (by omega) ?_
        refine ev_if (by omega) ?_
        rw [if_pos c, Int.toNat_natCast, Int.toNat_natCast, ext_list]
        have := ih (i + 1) (i + 1) (out ++ [mkT ((s.data.toList.drop a).take (i - a))]) (by omega) (by omega) (by rw [List.length_append]; simp; omega)
        rw [Nat.sub_self, List.take_zero] at this
        rw [List.map_cons]
        rw [List.append_assoc] at this
        exact this
      · refine ev_else (by omega) ?_
        rw [if_neg c]
        have := ih (i + 1) a out (by omega) (by omega) ho
        have e : (s.data.toList.drop a).take (i + 1 - a) = (s.data.toList.drop a).take (i - a) ++ [s.data.toList[i]] := by
          rw [show i + 1 - a = (i - a) + 1 by omega, List.take_add_one, List.getElem?_drop, show a + (i - a) = i by omega, List.getElem?_eq_getElem hi']
          rfl
        rw [e] at this
        exact this
  have := key s.size 0 0 [] (by omega) (by omega) (by simp)
  simp only [List.nil_append, List.drop_zero, Nat.sub_self, List.take_zero] at this
  exact this
/-- A digit. -/
def isD (c : UInt8) : Prop := 48 ≤ c.toNat ∧ c.toNat ≤ 57
/-- What digits spell, behind a number. -/
def dval (a : Nat) (l : List UInt8) : Nat := l.foldl (fun a c => 10 * a + (c.toNat - 48)) a
theorem dval_nil (a : Nat) : dval a [] = a := rfl
theorem dval_cons (a : Nat) (c : UInt8) (t : List UInt8) : dval a (c :: t) = dval (10 * a + (c.toNat - 48)) t := by simp only [dval, List.foldl_cons]
theorem dval_ge : ∀ (l : List UInt8) (a : Nat), a ≤ dval a l
  | [], a => Nat.le_refl a
  | c :: t, a => by
    rw [dval_cons]
    have := dval_ge t (10 * a + (c.toNat - 48))
    omega
theorem dval_app (x y : List UInt8) (a : Nat) : dval a (x ++ y) = dval (dval a x) y := List.foldl_append
theorem isD_of (d : Nat) (h : d < 10) : isD (UInt8.ofNat (48 + d)) ∧ (UInt8.ofNat (48 + d)).toNat = 48 + d := by
  have e : (UInt8.ofNat (48 + d)).toNat = 48 + d := by
    rw [UInt8.toNat_ofNat']
    omega
  exact ⟨by unfold isD; omega, e⟩
theorem dec_isD : ∀ (n : Nat), ∀ c ∈ Go.Lib.decDigits n, isD c := by
  intro n
  induction n using Nat.strongRecOn with
  | _ n ih =>
    intro c hc
    by_cases h : n < 10
    · rw [Go.Lib.decDigits, dif_pos h, List.mem_singleton] at hc
      rw [hc]
      exact (isD_of n h).1
    · rw [dec_big h, List.mem_append, List.mem_singleton] at hc
      rcases hc with hc | hc
      · exact ih (n / 10) (by omega) c hc
      · rw [hc]
        exact (isD_of (n % 10) (by omega)).1
theorem dec_val : ∀ (n : Nat), dval 0 (Go.Lib.decDigits n) = n := by
  intro n
  induction n using Nat.strongRecOn with
  | _ n ih =>
    by_cases h : n < 10
    · rw [Go.Lib.decDigits, dif_pos h, dval_cons, dval_nil, (isD_of n h).2]
      omega
    · rw [dec_big h, dval_app, ih (n / 10) (by omega), dval_cons, dval_nil, (isD_of (n % 10) (by omega)).2]
      omega
theorem dec_ne (n : Nat) : Go.Lib.decDigits n ≠ [] := by
  by_cases h : n < 10
  · rw [Go.Lib.decDigits, dif_pos h]; simp
  · rw [dec_big h]; simp
theorem dec_head : ∀ (n : Nat), 1 ≤ n → ∀ c, (Go.Lib.decDigits n).head? = some c → c.toNat ≠ 48 := by
  intro n
  induction n using Nat.strongRecOn with
  | _ n ih =>
    intro h1 c hc
    by_cases h : n < 10
    · rw [Go.Lib.decDigits, dif_pos h, List.head?_cons] at hc
      obtain rfl := Option.some.inj hc
      rw [(isD_of n h).2]
      omega
    · rw [dec_big h] at hc
      refine ih (n / 10) (by omega) (by omega) c ?_
      cases e : Go.Lib.decDigits (n / 10) with
      | nil => exact absurd e (dec_ne _)
      | cons a t =>
        rw [e] at hc
        exact hc
/-- A number read, digit by digit. -/
def rdg : List UInt8 → Nat → Int
  | [], acc => (acc : Int)
  | c :: t, acc => if c.toNat < 48 then -1 else if c.toNat > 57 then -1 else rdg t (10 * acc + (c.toNat - 48))
theorem rdg_nil (a : Nat) : rdg [] a = (a : Int) := rfl
theorem rdg_cons (c : UInt8) (t : List UInt8) (a : Nat) : rdg (c :: t) a = if c.toNat < 48 then -1 else if c.toNat > 57 then -1 else rdg t (10 * a + (c.toNat - 48)) := rfl
theorem rdg_dec : ∀ (l : List UInt8) (a : Nat), (∀ c ∈ l, isD c) → rdg l a = (dval a l : Int)
  | [], a, _ => rfl
  | c :: t, a, h => by
    have hc := h c (List.mem_cons_self)
    unfold isD at hc
    rw [rdg_cons, if_neg (by omega), if_neg (by omega), rdg_dec t _ (fun x hx => h x (List.mem_cons_of_mem _ hx)), dval_cons]
def l1R (l : List UInt8) : Int := if 1 ≤ l.length ∧ l.length ≤ 6 then (if (l.head?.map (·.toNat)) = some 48 ∧ 1 < l.length then -1 else rdg l 0) else -1
theorem l1R_dec (n : Nat) (h : n ≤ 999999) : l1R (Go.Lib.decDigits n) = (n : Int) := by
  have h1 := dec_len 6 n (by omega) (by omega)
  have h2 := List.length_pos_iff.2 (dec_ne n)
  unfold l1R
  rw [if_pos ⟨by omega, h1⟩, if_neg ?_, rdg_dec _ _ (dec_isD n), dec_val]
  rintro ⟨e1, e2⟩
  by_cases z : n < 10
  · rw [Go.Lib.decDigits, dif_pos z] at e2
    simp at e2
  · cases e : (Go.Lib.decDigits n).head? with
    | none => rw [e] at e1; simp at e1
    | some c =>
      rw [e] at e1
      exact dec_head n (by omega) c e (by simpa using e1)
theorem l1Read_ev (s : ByteArray) : Ev (fun k => spec_l1Read.f k s) (l1R s.data.toList) := by
  have hl := size_len s
  have key : ∀ (d i a : Nat), i + d = s.size → s.size ≤ 6 → a < 10 ^ i → Ev (fun k => spec_l1Read.l0 k s (a : Int) (i : Int)) (rdg (s.data.toList.drop i) a) := by
    intro d
    induction d with
    | zero =>
      intro i a h h6 ha
      refine ev_succ ?_
      simp only [spec_l1Read.l0]
      refine ev_else (by omega) ?_
      rw [List.drop_eq_nil_of_le (by omega), rdg_nil]
      exact Ev.now _
    | succ d ih =>
      intro i a h h6 ha
      have hi : i < s.size := by omega
      have hi' : i < s.data.toList.length := by omega
      have hp : 10 ^ i ≤ 10 ^ 6 := Nat.pow_le_pow_right (by omega) (by omega)
      refine ev_succ ?_
      simp only [spec_l1Read.l0]
      refine ev_if (by omega) ?_
      refine ev_if (by omega) ?_
      simp only [bt_nat s i hi, w64s (show i < 4611686018427387904 by omega)]
      rw [List.drop_eq_getElem_cons hi', rdg_cons]
      generalize (s.data.toList[i]).toNat = c
      by_cases c1 : c < 48
      · refine ev_if (by omega) ?_
        rw [if_pos c1]
        exact Ev.now _
      · refine ev_else (by omega) ?_
        rw [if_neg c1]
        by_cases c2 : c > 57
        · refine ev_if (by omega) ?_
          rw [if_pos c2]
          exact Ev.now _
        · refine ev_else (by omega) ?_
          rw [if_neg c2]
          have e : wrap64 (wrap64 (10 * (a : Int)) + ((c : Int) - 48) % 256) = ((10 * a + (c - 48) : Nat) : Int) := by
            rw [w64 (x := 10 * (a : Int)) (by omega) (by omega), w64 (by omega) (by omega)]
            omega
          rw [e]
          refine ih (i + 1) _ (by omega) h6 ?_
          rw [Nat.pow_succ]
          omega
  simp only [spec_l1Read.f, l1R]
  refine ev_some (spec_l1In_eq _ _ _) ?_
  by_cases c : 1 ≤ s.data.toList.length ∧ s.data.toList.length ≤ 6
  · rw [if_pos c]
    refine ev_if (by rw [decide_eq_true_eq]; omega) ?_
    refine ev_if (by omega) ?_
    have h0 : 0 < s.size := by omega
    have e0 : s.data.toList.head? = some (s.data.toList[0]'(by omega)) := by rw [List.head?_eq_getElem?, List.getElem?_eq_getElem]
    have hb : bt s 0 = ((s.data.toList[0]'(by omega)).toNat : Int) := bt_nat s 0 h0
    simp only [hb]
    rw [e0, Option.map_some]
    by_cases z : (s.data.toList[0]'(by omega)).toNat = 48
    · refine ev_if (by omega) ?_
      refine ev_succ ?_
      simp only [spec_l1Read.j0]
      by_cases y : 1 < s.data.toList.length
      · refine ev_if (by rw [decide_eq_true_eq]; omega) ?_
        rw [if_pos ⟨by rw [z], y⟩]
        exact Ev.now _
      · refine ev_else (by rw [decide_eq_true_eq]; omega) ?_
        rw [if_neg (fun h => y h.2)]
        exact key s.size 0 0 (by omega) (by omega) (by omega)
    · refine ev_else (by omega) ?_
      refine ev_succ ?_
      simp only [spec_l1Read.j0]
      refine ev_else (by simp) ?_
      rw [if_neg (fun h => z (Option.some.inj h.1))]
      exact key s.size 0 0 (by omega) (by omega) (by omega)
  · rw [if_neg c]
    refine ev_else (by rw [decide_eq_true_eq]; omega) ?_
    refine ev_succ ?_
    simp only [spec_l1Read.j0]
    refine ev_if trivial ?_
    exact Ev.now _
/-! ### strings.Cut and strconv.Atoi at these texts. -/
theorem index_none (c : UInt8) : ∀ (l : List UInt8), (∀ x ∈ l, x.toNat ≠ c.toNat) → Go.Lib.index l [c] = -1
  | [], _ => by simp [Go.Lib.index]
  | b :: l, h => by
    have hb : ¬ (c == b) = true := by
      intro e
      have := h b (List.mem_cons_self)
      rw [beq_iff_eq] at e
      exact this (by rw [e])
    rw [Go.Lib.index, index_none c l (fun x hx => h x (List.mem_cons_of_mem _ hx))]
    simp [List.isPrefixOf, hb]
theorem index_hit (c : UInt8) (y : List UInt8) : ∀ (x : List UInt8), (∀ d ∈ x, d.toNat ≠ c.toNat) → Go.Lib.index (x ++ c :: y) [c] = (x.length : Int)
  | [], _ => by simp [Go.Lib.index, List.isPrefixOf]
  | b :: l, h => by
    have hb : ¬ (c == b) = true := by
      intro e
      have := h b (List.mem_cons_self)
      rw [beq_iff_eq] at e
      exact this (by rw [e])
    rw [List.cons_append, Go.Lib.index, index_hit c y l (fun x hx => h x (List.mem_cons_of_mem _ hx))]
    have hn : ¬ ((l.length : Int) == -1) = true := by
      intro e
      rw [beq_iff_eq] at e
      omega
    have hp : ([c].isPrefixOf (b :: (l ++ c :: y))) = false := by simpa [List.isPrefixOf] using hb
    rw [hp]
    simp only [Bool.false_eq_true, if_false, hn, List.length_cons]
    rfl
theorem cut_none (c : UInt8) (l : List UInt8) (h : ∀ x ∈ l, x.toNat ≠ c.toNat) : Go.Lib.cut l [c] = (l, [], false) := by
  unfold Go.Lib.cut
  rw [index_none c l h, if_neg (by omega)]
theorem cut_hit (c : UInt8) (x y : List UInt8) (h : ∀ d ∈ x, d.toNat ≠ c.toNat) : Go.Lib.cut (x ++ c :: y) [c] = (x, y, true) := by
  unfold Go.Lib.cut
  rw [index_hit c y x h, if_pos (by omega), Int.toNat_natCast]
  simp
theorem cut_len (s sep : List UInt8) : (Go.Lib.cut s sep).1.length ≤ s.length ∧ (Go.Lib.cut s sep).2.1.length ≤ s.length := by
  unfold Go.Lib.cut
  split
  · exact ⟨by rw [List.length_take]; omega, by rw [List.length_drop]; omega⟩
  · exact ⟨Nat.le_refl _, by simp⟩
theorem parse10 : ∀ (l : List UInt8) (a : Nat), (∀ c ∈ l, isD c) → dval a l ≤ 10000000 → Go.Lib.parseUint10 a l = .ok (dval a l)
  | [], a, _, _ => rfl
  | c :: t, a, h, hv => by
    have hc := h c (List.mem_cons_self)
    unfold isD at hc
    rw [dval_cons] at hv ⊢
    have := dval_ge t (10 * a + (c.toNat - 48))
    rw [Go.Lib.parseUint10, if_pos hc, if_neg (by omega), if_neg (by omega), Nat.mul_comm a 10]
    exact parse10 t _ (fun x hx => h x (List.mem_cons_of_mem _ hx)) hv
theorem atoi_dec (n : Nat) (h : n ≤ 1000000) : Go.Lib.atoiAll (Go.Lib.decDigits n) = .ok (n : Int) := by
  have hd := dec_isD n
  have hv := dec_val n
  cases e : Go.Lib.decDigits n with
  | nil => exact absurd e (dec_ne n)
  | cons c t =>
    rw [e] at hd hv
    have hc := hd c (List.mem_cons_self)
    unfold isD at hc
    rw [Go.Lib.atoiAll_plain c t (by omega) (by omega)]
    unfold Go.Lib.parseMag
    rw [if_neg (by simp), parse10 (c :: t) 0 hd (by omega), hv]
    unfold Go.Lib.signless
    simp only
    rw [if_neg (by omega)]
theorem atoi_f (n : Nat) (h : n ≤ 1000000) (s : ByteArray) (hs : s.data.toList = Go.Lib.decDigits n) : strconv_Atoi.f s = some ((n : Int), none) := by
  have hl := dec_len 7 n (by omega) (by omega)
  unfold strconv_Atoi.f strconv_Atoi.v strconv_Atoi.e
  rw [if_pos (by rw [size_len, hs]; omega), hs, atoi_dec n h]

/-! ### A text and its pieces. -/
theorem join_two (x y : List UInt8) (r : List (List UInt8)) (sep : List UInt8) : Go.Lib.join (x :: y :: r) sep = x ++ sep ++ Go.Lib.join (y :: r) sep := by
  rw [Go.Lib.join_cons, Go.Lib.join_cons]
  simp [Go.Lib.joinTail, List.append_assoc]
theorem spL_join (b : UInt8) : ∀ (l acc : List UInt8), Go.Lib.join (spL b.toNat acc l) [b] = acc ++ l
  | [], acc => by rw [spL, Go.Lib.join_one, List.append_nil]
  | c :: t, acc => by
    rw [spL]
    by_cases h : c.toNat = b.toNat
    · rw [if_pos h]
      have ih := spL_join b t []
      have hp := spL_pos b.toNat t []
      have hc : c = b := UInt8.toNat_inj.1 h
      cases e : spL b.toNat [] t with
      | nil => rw [e] at hp; simp at hp
      | cons y r =>
        rw [e] at ih
        rw [join_two, ih, hc]
        simp
    · rw [if_neg h, spL_join b t]
      simp
theorem rdg_pos : ∀ (l : List UInt8) (a : Nat), 0 ≤ rdg l a → ∀ c ∈ l, isD c
  | [], _, _, c, hc => by cases hc
  | d :: t, a, h, c, hc => by
    rw [rdg_cons] at h
    by_cases c1 : d.toNat < 48
    · rw [if_pos c1] at h; omega
    · rw [if_neg c1] at h
      by_cases c2 : d.toNat > 57
      · rw [if_pos c2] at h; omega
      · rw [if_neg c2] at h
        rcases List.mem_cons.1 hc with e | e
        · rw [e]; unfold isD; omega
        · exact rdg_pos t _ h c e
/-- Digits without a needless zero ahead are the number's own. -/
theorem canon : ∀ (n : Nat) (p : List UInt8), p.length = n → (∀ c ∈ p, isD c) → p ≠ [] → (1 < p.length → ∀ c, p.head? = some c → c.toNat ≠ 48) → Go.Lib.decDigits (dval 0 p) = p := by
  intro n
  induction n with
  | zero => intro p hn _ hp _; exact absurd (List.length_eq_zero_iff.1 hn) hp
  | succ n ih =>
    intro p hn hd hp hz
    obtain ⟨q, d, rfl⟩ : ∃ q d, p = q ++ [d] := ⟨p.dropLast, p.getLast hp, (List.dropLast_concat_getLast hp).symm⟩
    have hdd := hd d (by simp)
    unfold isD at hdd
    have hlast : UInt8.ofNat (48 + (d.toNat - 48)) = d := by
      apply UInt8.toNat_inj.1
      rw [UInt8.toNat_ofNat']
      omega
    by_cases hq : q = []
    · subst hq
      rw [List.nil_append, dval_cons, dval_nil, Go.Lib.decDigits, dif_pos (by omega), Nat.mul_zero, Nat.zero_add, hlast]
    · rw [dval_app, dval_cons, dval_nil]
      have hlen : 1 < (q ++ [d]).length := by
        have := List.length_pos_iff.2 hq
        rw [List.length_append, List.length_singleton]
        omega
      have hpos : 1 ≤ dval 0 q := by
        cases e : q with
        | nil => exact absurd e hq
        | cons a t =>
          have ha := hd a (by rw [e]; simp)
          have hz' := hz hlen a (by rw [e]; rfl)
          unfold isD at ha
          rw [dval_cons]
          have := dval_ge t (10 * 0 + (a.toNat - 48))
          omega
      have hI := ih q (by rw [List.length_append, List.length_singleton] at hn; omega) (fun c hc => hd c (by simp [hc])) hq (fun hl c hc => hz hlen c (by
        cases e : q with
        | nil => exact absurd e hq
        | cons a t => rw [e] at hc; exact hc))
      rw [dec_big (by omega), show (10 * dval 0 q + (d.toNat - 48)) / 10 = dval 0 q by omega, show (10 * dval 0 q + (d.toNat - 48)) % 10 = d.toNat - 48 by omega, hI, hlast]
theorem l1R_back (p : List UInt8) (h : 0 ≤ l1R p) : digs (l1R p) = p := by
  unfold l1R at h ⊢
  by_cases c : 1 ≤ p.length ∧ p.length ≤ 6
  · rw [if_pos c] at h ⊢
    by_cases z : (p.head?.map (·.toNat)) = some 48 ∧ 1 < p.length
    · rw [if_pos z] at h; omega
    · rw [if_neg z] at h ⊢
      have hd := rdg_pos p 0 h
      rw [rdg_dec p 0 hd]
      unfold digs
      rw [Int.toNat_natCast]
      refine canon p.length p rfl hd (fun e => by rw [e] at c; simp at c) (fun hl a ha e => z ⟨by rw [ha, Option.map_some, e], hl⟩)
  · rw [if_neg c] at h; omega
theorem digs_ne (x : Int) (b : Nat) (hb : b < 48 ∨ 57 < b) : ∀ c ∈ digs x, c.toNat ≠ b := by
  intro c hc
  have := dec_isD x.toNat c hc
  unfold isD at this
  omega
theorem comL_ne (l : List Int) : ∀ c ∈ comL l, c.toNat ≠ 99 := by
  cases l with
  | nil => intro c hc; simp [comL, Go.Lib.join_nil] at hc
  | cons a l =>
    intro c hc
    unfold comL at hc
    rw [List.map_cons, Go.Lib.join_cons, List.mem_append] at hc
    rcases hc with hc | hc
    · exact digs_ne a 99 (Or.inr (by omega)) c hc
    · unfold Go.Lib.joinTail at hc
      rw [List.mem_flatten] at hc
      obtain ⟨p, hp, hc⟩ := hc
      rw [List.mem_map] at hp
      obtain ⟨q, hq, rfl⟩ := hp
      rw [List.mem_map] at hq
      obtain ⟨x, _, rfl⟩ := hq
      rw [List.mem_append, List.mem_singleton] at hc
      rcases hc with hc | hc
      · rw [hc]; decide
      · exact digs_ne x 99 (Or.inr (by omega)) c hc
theorem comL_cons (a b : Int) (l : List Int) : comL (a :: b :: l) = digs a ++ 44 :: comL (b :: l) := by
  unfold comL
  rw [List.map_cons, List.map_cons, join_two]
  simp
theorem spL_com : ∀ (l : List Int) (a : Int), spL 44 [] (comL (a :: l)) = (a :: l).map digs
  | [], a => by
    rw [comL_one, spL_none 44 _ [] (digs_ne a 44 (Or.inl (by omega)))]
    rfl
  | b :: l, a => by
    rw [comL_cons, spL_hit 44 44 rfl _ _ [] (digs_ne a 44 (Or.inl (by omega))), spL_com l b]
    rfl
theorem l1R_digs (x : Int) (h0 : 0 ≤ x) (h1 : x ≤ 999999) : l1R (digs x) = x := by
  obtain ⟨n, rfl⟩ := Int.eq_ofNat_of_zero_le h0
  unfold digs
  rw [Int.toNat_natCast, l1R_dec n (by omega)]
theorem comL_len (l : List Int) (h : ∀ x ∈ l, 1 ≤ x ∧ x ≤ 100) (h1 : 1 ≤ l.length) : 2 * l.length ≤ (comL l).length + 1 ∧ (comL l).length + 1 ≤ 4 * l.length := by
  have one : ∀ x : Int, 1 ≤ x ∧ x ≤ 100 → 1 ≤ (digs x).length ∧ (digs x).length ≤ 3 := by
    intro x hx
    exact ⟨List.length_pos_iff.2 (dec_ne _), dec_len 3 x.toNat (by omega) (by omega)⟩
  cases l with
  | nil => simp at h1
  | cons a l =>
    clear h1
    induction l generalizing a with
    | nil =>
      have := one a (h a (by simp))
      rw [comL_one]
      simp only [List.length_cons, List.length_nil]
      omega
    | cons b l ih =>
      have := one a (h a (by simp))
      have hi := ih b (fun x hx => h x (List.mem_cons_of_mem _ hx))
      rw [comL_cons]
      simp only [List.length_append, List.length_cons] at hi ⊢
      omega
theorem splitB_com : ∀ (l : List Int) (a : Int) (k : Nat), l.length ≤ k → Go.Lib.splitB (⟨#[44]⟩ : ByteArray) 0 k (mkT (comL (a :: l))) = (a :: l).map fun x => mkT (digs x)
  | [], a, k, _ => by
    rw [comL_one]
    exact Go.Lib.splitB_miss _ _ _ _ (by show Go.Lib.index (mkT (digs a)).data.toList [44] = -1; rw [mkT_list]; exact index_none 44 _ (digs_ne a 44 (Or.inl (by omega))))
  | b :: l, a, k, hk => by
    obtain ⟨k, rfl⟩ : ∃ j, k = j + 1 := ⟨k - 1, by simp at hk; omega⟩
    have hi : Go.Lib.indexB (mkT (comL (a :: b :: l))) (⟨#[44]⟩ : ByteArray) = ((digs a).length : Int) := by
      show Go.Lib.index (mkT (comL (a :: b :: l))).data.toList [44] = _
      rw [mkT_list, comL_cons]
      exact index_hit 44 _ _ (digs_ne a 44 (Or.inl (by omega)))
    rw [Go.Lib.splitB_hit _ _ _ _ _ hi, List.map_cons, ← splitB_com l b k (by simp at hk; omega)]
    rw [ext_list, ext_list, mkT_list, comL_cons]
    congr 1
    · congr 1
      simp
    · congr 2
      rw [mkT_size]
      rw [show (ByteArray.mk #[44]).size = 1 from rfl]
      have e : (digs a ++ 44 :: comL (b :: l)).drop ((digs a).length + 1) = comL (b :: l) := by simp
      rw [e, List.take_of_length_le (by simp only [List.length_append, List.length_cons]; omega)]

theorem laws_heldShelf_ev (n : Nat) (c : Int) (hl : n ≤ 1048576) : Ev (fun k => laws_heldShelf.f k (marked 1 n) c 1) (1 + (n : Int)) := by
  simp only [laws_heldShelf.f]
  refine Ev.bind (laws_heldIntS_ev n hl) ?_
  refine ev_else (by omega) ?_
  exact Ev.now _
theorem rdOf_map (l : List (List UInt8)) (i : Nat) (h : i < l.length) : rdOf ByteArray.empty (l.map mkT) (i : Int) = mkT (l.getD i []) := by
  unfold rdOf
  rw [Int.toNat_natCast, List.getD_eq_getElem?_getD, List.getD_eq_getElem?_getD, List.getElem?_map, List.getElem?_eq_getElem h]
  rfl
/-- What the reference reads. -/
def shP (s : ByteArray) : List Int × Int × Bool :=
  let P := spL 99 [] s.data.toList
  if 34 < s.size ∨ P.length ≠ 2 then ([], 0, false) else
  let l := (spL 44 [] (P.getD 0 [])).map l1R
  let c := l1R (P.getD 1 [])
  if shOk l c = true then (l, c, true) else ([], 0, false)
theorem spL_cnt (b : Nat) : ∀ (l acc : List UInt8), (spL b acc l).length ≤ l.length + 1
  | [], _ => by simp [spL]
  | c :: t, acc => by
    rw [spL]
    split
    · have := spL_cnt b t []
      simp only [List.length_cons]
      omega
    · have := spL_cnt b t (acc ++ [c])
      simp only [List.length_cons]
      omega
theorem shParse_ev (s : ByteArray) (hs : s.size ≤ 1048576) : Ev (fun k => spec_shParse.f k s) (shP s) := by
  simp only [spec_shParse.f]
  refine Ev.bind (l1Split_ev s 99 hs) ?_
  unfold shP
  dsimp only
  generalize hP : spL 99 [] s.data.toList = P
  by_cases c0 : 34 < s.size
  · rw [if_pos (Or.inl c0)]
    refine ev_if (by omega) ?_
    refine ev_succ ?_
    simp only [spec_shParse.j0, if_true]
    exact Ev.now _
  refine ev_else (by omega) ?_
  refine ev_succ ?_
  simp only [spec_shParse.j0]
  by_cases c1 : P.length = 2
  · rw [if_neg (by omega)]
    have hl : (P.map mkT).length = 2 := by rw [List.length_map, c1]
    refine ev_else (by simp [c1]) ?_
    refine ev_if (by omega) ?_
    rw [show (1 : Int) = ((1 : Nat) : Int) from rfl, rdOf_map P 1 (by omega)]
    refine Ev.bind (l1Read_ev _) ?_
    refine ev_if (by omega) ?_
    rw [show (0 : Int) = ((0 : Nat) : Int) from rfl, rdOf_map P 0 (by omega)]
    have hp : (P.getD 0 []).length ≤ 34 := by
      have hm : P.getD 0 [] ∈ P := by
        rw [List.getD_eq_getElem?_getD, List.getElem?_eq_getElem (by omega)]
        exact List.getElem_mem _
      have := spL_le 99 s.data.toList [] _ (by rw [hP]; exact hm)
      rw [← size_len] at this
      simp only [List.length_nil, Nat.zero_add] at this
      omega
    refine Ev.bind (l1Split_ev _ 44 (by rw [mkT_size]; omega)) ?_
    rw [mkT_list, mkT_list]
    have hc := spL_cnt 44 (P.getD 0 []) []
    generalize spL 44 [] (P.getD 0 []) = N at hc ⊢
    generalize l1R (P.getD 1 []) = c
    have key : ∀ (d i : Nat), i + d = N.length → Ev (fun k => spec_shParse.l0 k (N.map mkT) ((N.map mkT).length : Int) (i : Int) ((N.take i).map l1R) c) (if shOk (N.map l1R) c = true then (N.map l1R, c, true) else ([], 0, false)) := by
      intro d
      induction d with
      | zero =>
        intro i h
        refine ev_succ ?_
        simp only [spec_shParse.l0]
        refine ev_else (by rw [List.length_map]; omega) ?_
        rw [List.take_of_length_le (by omega)]
        refine Ev.bind (spec_shGood_ev _ c (by rw [List.length_map]; omega)) ?_
        by_cases g : shOk (N.map l1R) c = true
        · refine ev_if g ?_
          rw [if_pos g]
          exact Ev.now _
        · refine ev_else g ?_
          rw [if_neg g]
          exact Ev.now _
      | succ d ih =>
        intro i h
        have hi : i < N.length := by omega
        refine ev_succ ?_
        simp only [spec_shParse.l0]
        refine ev_if (by rw [List.length_map]; omega) ?_
        refine ev_if (by omega) ?_
        refine ev_if (by rw [List.length_map]; omega) ?_
        simp only [rdOf_map N i hi, w64s (show i < 4611686018427387904 by omega)]
        refine Ev.bind (l1Read_ev _) ?_
        refine ev_if (by rw [List.length_map, List.length_take]; omega) ?_
        have e : (N.take i).map l1R ++ [l1R (mkT (N.getD i [])).data.toList] = (N.take (i + 1)).map l1R := by
          rw [mkT_list, List.take_add_one, List.getElem?_eq_getElem hi, List.map_append, List.getD_eq_getElem?_getD, List.getElem?_eq_getElem hi]
          rfl
        rw [e]
        exact ih (i + 1) (by omega)
    exact key N.length 0 (by omega)
  · rw [if_pos (Or.inr c1)]
    refine ev_if (by simp only [List.length_map, bne_iff_ne]; omega) ?_
    exact Ev.now _
/-- What the program reads as numbers. -/
def numF (N : List ByteArray) : List Int × Bool := if 8 < N.length then ([], false) else if N.all (fun p => (strconv_Atoi.e p).isNone) = true then (N.map strconv_Atoi.v, true) else ([], false)
theorem atoiF (s : ByteArray) (h : s.size ≤ 1048576) : strconv_Atoi.f s = some (strconv_Atoi.v s, strconv_Atoi.e s) := by
  unfold strconv_Atoi.f
  rw [if_pos (by omega)]
theorem splitB_small (sep : ByteArray) : ∀ (k : Nat) (s p : ByteArray), p ∈ Go.Lib.splitB sep 0 k s → p.size ≤ s.size
  | 0, s, p, h => by
    rw [Go.Lib.splitB_zero, List.mem_singleton] at h
    rw [h]
    exact Nat.le_refl _
  | k + 1, s, p, h => by
    rcases Go.Lib.indexB_cases s sep with hm | ⟨i, hi, _⟩
    · rw [Go.Lib.splitB_miss _ _ _ _ hm, List.mem_singleton] at h
      rw [h]
      exact Nat.le_refl _
    · rw [Go.Lib.splitB_hit _ _ _ _ _ hi] at h
      rcases List.mem_cons.1 h with h | h
      · rw [h, ext_list, mkT_size, List.length_take, List.length_drop, ← size_len]
        omega
      · have := splitB_small sep k _ p h
        rw [ext_list, mkT_size, List.length_take, List.length_drop, ← size_len] at this
        omega
theorem numbersOf_ev (s : ByteArray) (hs : s.size ≤ 1048576) : Ev (fun k => impl_numbersOf.f k s (⟨#[44]⟩ : ByteArray) 8) (numF (Go.Lib.splitB (⟨#[44]⟩ : ByteArray) 0 (min 9 (s.size + 1) - 1) s)) := by
  have hsm := splitB_small (⟨#[44]⟩ : ByteArray) (min 9 (s.size + 1) - 1) s
  simp only [impl_numbersOf.f]
  refine ev_some (a := Go.Lib.splitB (⟨#[44]⟩ : ByteArray) 0 (min 9 (s.size + 1) - 1) s) ?_ ?_
  · unfold strings_SplitN.f
    rw [w64 (by omega) (by omega), if_pos ⟨by omega, Nat.le_refl _, by omega, by omega⟩]
    rfl
  generalize Go.Lib.splitB (⟨#[44]⟩ : ByteArray) 0 (min 9 (s.size + 1) - 1) s = N at hsm ⊢
  unfold numF
  by_cases c : 8 < N.length
  · rw [if_pos c]
    refine ev_if (by omega) ?_
    exact Ev.now _
  rw [if_neg c]
  refine ev_else (by omega) ?_
  have key : ∀ (d i : Nat), i + d = N.length → Ev (fun k => impl_numbersOf.l0 k ((N.take i).map strconv_Atoi.v) N (N.length : Int) (i : Int)) (if (N.drop i).all (fun p => (strconv_Atoi.e p).isNone) = true then (N.map strconv_Atoi.v, true) else ([], false)) := by
    intro d
    induction d with
    | zero =>
      intro i h
      refine ev_succ ?_
      simp only [impl_numbersOf.l0]
      refine ev_else (by omega) ?_
      rw [List.take_of_length_le (by omega), List.drop_eq_nil_of_le (by omega), List.all_nil, if_pos rfl]
      exact Ev.now _
    | succ d ih =>
      intro i h
      have hi : i < N.length := by omega
      have e0 : rdOf ByteArray.empty N (i : Int) = N[i] := by
        unfold rdOf
        rw [Int.toNat_natCast, List.getD_eq_getElem?_getD, List.getElem?_eq_getElem hi]
        rfl
      refine ev_succ ?_
      simp only [impl_numbersOf.l0]
      refine ev_if (by omega) ?_
      refine ev_if (by omega) ?_
      refine ev_if (by omega) ?_
      simp only [e0, w64s (show i < 4611686018427387904 by omega)]
      refine ev_some (atoiF N[i] (by have := hsm N[i] (List.getElem_mem hi); omega)) ?_
      rw [List.drop_eq_getElem_cons hi, List.all_cons]
      by_cases g : (strconv_Atoi.e N[i]).isNone = true
      · refine ev_if g ?_
        refine ev_if (by rw [List.length_map, List.length_take]; omega) ?_
        rw [g, Bool.true_and]
        have e : (N.take i).map strconv_Atoi.v ++ [strconv_Atoi.v N[i]] = (N.take (i + 1)).map strconv_Atoi.v := by
          rw [List.take_add_one, List.getElem?_eq_getElem hi, List.map_append]
          rfl
        dsimp only
        rw [e]
        exact ih (i + 1) (by omega)
      · refine ev_else g ?_
        rw [Bool.not_eq_true] at g
        rw [g, Bool.false_and, if_neg (by simp)]
        exact Ev.now _
  exact key N.length 0 (by omega)
theorem cutF (s : ByteArray) (c : UInt8) (h : s.size ≤ 1048576) : strings_Cut.f s (⟨#[c]⟩ : ByteArray) = some (mkT (Go.Lib.cut s.data.toList [c]).1, mkT (Go.Lib.cut s.data.toList [c]).2.1, (Go.Lib.cut s.data.toList [c]).2.2) := by
  unfold strings_Cut.f
  rw [if_pos (by omega)]
  rfl
/-- A shelf that the text s has. -/
def shHas (s : ByteArray) (l : List Int) (c : Int) : Bool := shOk l c && decide (shT l c.toNat = s)
/-- What the program reads. -/
def imS (s : ByteArray) : List Int × Int × Bool :=
  let a := Go.Lib.cut s.data.toList [99]
  let n := numF (Go.Lib.splitB (⟨#[44]⟩ : ByteArray) 0 (min 9 ((mkT a.1).size + 1) - 1) (mkT a.1))
  if (n.2 = true ∧ (strconv_Atoi.e (mkT a.2.1)).isNone = true) ∧ shHas s n.1 (strconv_Atoi.v (mkT a.2.1)) = true then (n.1, strconv_Atoi.v (mkT a.2.1), true) else ([], 0, false)
theorem numF_len (N : List ByteArray) : (numF N).1.length ≤ 8 := by
  unfold numF
  split
  · simp
  · split
    · rw [List.length_map]; omega
    · simp
theorem implParse_ev (s : ByteArray) (hs : s.size ≤ 1048576) : Ev (fun k => impl_ParseShelf.f k s) (imS s) := by
  have hl := size_len s
  obtain ⟨a1, a2⟩ := cut_len s.data.toList [99]
  simp only [impl_ParseShelf.f]
  refine ev_some (cutF s 99 hs) ?_
  dsimp only
  refine Ev.bind (numbersOf_ev _ (by rw [mkT_size]; omega)) ?_
  refine ev_some (atoiF _ (by rw [mkT_size]; omega)) ?_
  unfold imS
  dsimp only
  have hn := numF_len (Go.Lib.splitB (⟨#[44]⟩ : ByteArray) 0 (min 9 ((mkT (Go.Lib.cut s.data.toList [99]).1).size + 1) - 1) (mkT (Go.Lib.cut s.data.toList [99]).1))
  generalize numF (Go.Lib.splitB (⟨#[44]⟩ : ByteArray) 0 (min 9 ((mkT (Go.Lib.cut s.data.toList [99]).1).size + 1) - 1) (mkT (Go.Lib.cut s.data.toList [99]).1)) = n at hn ⊢
  obtain ⟨l, ok⟩ := n
  dsimp only at hn ⊢
  generalize strconv_Atoi.e (mkT (Go.Lib.cut s.data.toList [99]).2.1) = e1
  generalize strconv_Atoi.v (mkT (Go.Lib.cut s.data.toList [99]).2.1) = c
  by_cases c1 : ok = true
  rotate_left
  · refine ev_else c1 (ev_ret ?_)
    rw [if_neg (fun h => c1 h.1.1)]
  refine ev_if c1 ?_
  by_cases c2 : e1.isNone = true
  rotate_left
  · refine ev_else c2 (ev_ret ?_)
    rw [if_neg (fun h => c2 h.1.2)]
  refine ev_if c2 ?_
  refine Ev.bind (impl_IsShelf_ev l c (by omega)) ?_
  by_cases g : shOk l c = true
  rotate_left
  · refine ev_else g (ev_ret ?_)
    rw [if_neg ?_]
    rintro ⟨_, h⟩
    unfold shHas at h
    rw [Bool.and_eq_true] at h
    exact g h.1
  refine ev_if g ?_
  have h1 := shOk_len g
  have h2 := shOk_all g
  have h3 := shOk_cover g
  obtain ⟨c, rfl⟩ := Int.eq_ofNat_of_zero_le h3.1
  refine Ev.bind (impl_shelfText_ev l c (fun x hx => by have := h2 x hx; omega) (by omega) (by omega)) ?_
  have hh : shHas s l (c : Int) = decide (shT l c = s) := by
    unfold shHas
    rw [g, Int.toNat_natCast, Bool.true_and]
  rw [hh]
  by_cases z : shT l c = s
  · refine ev_if ((ba_eq _ _).2 z) (ev_ret ?_)
    rw [if_pos ⟨⟨c1, c2⟩, decide_eq_true z⟩]
  · refine ev_else (fun h => z ((ba_eq _ _).1 h)) (ev_ret ?_)
    rw [if_neg (fun h => z (of_decide_eq_true h.2))]
/-! ### At a shelf's text. -/
theorem shT_list (l : List Int) (c : Nat) : (shT l c).data.toList = comL l ++ 99 :: digs (c : Int) := by
  unfold shT
  rw [txt_app, txt_app, numT_digs]
  show comL l ++ [99] ++ _ = _
  simp
theorem shP_hit (l : List Int) (c : Nat) (h : shOk l c = true) : shP (shT l c) = (l, (c : Int), true) := by
  have h1 := shOk_len h
  have h2 := shOk_all h
  have h3 := shOk_cover h
  have hz := size_len (shT l c)
  obtain ⟨k1, k2⟩ := comL_len l h2 h1.1
  have k3 : (digs (c : Int)).length ≤ 2 := dec_len 2 _ (by omega) (by omega)
  unfold shP
  rw [shT_list] at hz ⊢
  rw [List.length_append, List.length_cons] at hz
  rw [spL_hit 99 99 rfl _ _ [] (comL_ne l), spL_none 99 _ [] (digs_ne c 99 (Or.inr (by omega)))]
  dsimp only
  rw [if_neg (by simp; omega)]
  simp only [List.nil_append, List.getD_cons_succ, List.getD_cons_zero]
  rw [l1R_digs c (by omega) (by omega)]
  have e : (spL 44 [] (comL l)).map l1R = l := by
    cases l with
    | nil => simp at h1
    | cons a l =>
      rw [spL_com, List.map_map]
      conv => rhs; rw [← List.map_id (a :: l)]
      apply List.map_congr_left
      intro x hx
      have := h2 x hx
      exact l1R_digs x (by omega) (by omega)
  rw [e, if_pos h]
theorem atoi_is (x : Int) (h0 : 0 ≤ x) (h : x ≤ 1000000) : strconv_Atoi.v (mkT (digs x)) = x ∧ strconv_Atoi.e (mkT (digs x)) = none := by
  obtain ⟨n, rfl⟩ := Int.eq_ofNat_of_zero_le h0
  unfold strconv_Atoi.v strconv_Atoi.e digs
  rw [mkT_list, Int.toNat_natCast, atoi_dec n (by omega)]
  exact ⟨rfl, rfl⟩
theorem imS_hit (l : List Int) (c : Nat) (h : shOk l c = true) : imS (shT l c) = (l, (c : Int), true) := by
  have h1 := shOk_len h
  have h2 := shOk_all h
  have h3 := shOk_cover h
  obtain ⟨k1, k2⟩ := comL_len l h2 h1.1
  have hh : shHas (shT l c) l c = true := by
    unfold shHas
    rw [h]
    simp
  obtain ⟨c1, c2⟩ := atoi_is c (by omega) (by omega)
  unfold imS
  rw [shT_list, cut_hit 99 _ _ (comL_ne l)]
  dsimp only
  have e : numF (Go.Lib.splitB (⟨#[44]⟩ : ByteArray) 0 (min 9 ((mkT (comL l)).size + 1) - 1) (mkT (comL l))) = (l, true) := by
    rw [mkT_size]
    cases l with
    | nil => simp at h1
    | cons a l =>
      rw [splitB_com l a _ (by simp only [List.length_cons] at k1 h1; omega)]
      unfold numF
      rw [if_neg (by rw [List.length_map]; omega), if_pos ?_]
      · rw [List.map_map]
        congr 1
        conv => rhs; rw [← List.map_id (a :: l)]
        apply List.map_congr_left
        intro x hx
        have := h2 x hx
        exact (atoi_is x (by omega) (by omega)).1
      · rw [List.all_eq_true]
        intro p hp
        rw [List.mem_map] at hp
        obtain ⟨x, hx, rfl⟩ := hp
        have := h2 x hx
        rw [(atoi_is x (by omega) (by omega)).2]
        rfl
  rw [e, c1, c2, hh]
  rfl
theorem has_of {s : ByteArray} {l : List Int} {c : Int} (h : shHas s l c = true) : ∃ (l : List Int) (c : Nat), shOk l c = true ∧ s = shT l c := by
  unfold shHas at h
  rw [Bool.and_eq_true, decide_eq_true_eq] at h
  obtain ⟨h1, h2⟩ := h
  have h3 := shOk_cover h1
  obtain ⟨c, rfl⟩ := Int.eq_ofNat_of_zero_le h3.1
  exact ⟨l, c, h1, h2.symm⟩
/-- What the reference reads is the text's own. -/
theorem shP_own (s : ByteArray) (N : List (List UInt8)) (c : List UInt8) (hP : spL 99 [] s.data.toList = [Go.Lib.join N [44], c]) (g : shOk (N.map l1R) (l1R c) = true) : ∃ (l : List Int) (c : Nat), shOk l c = true ∧ s = shT l c := by
  have h2 := shOk_all g
  have h3 := shOk_cover g
  refine ⟨N.map l1R, (l1R c).toNat, by rw [Int.toNat_of_nonneg h3.1]; exact g, ?_⟩
  apply ba_ext
  rw [shT_list, Int.toNat_of_nonneg h3.1, l1R_back c h3.1]
  have hj := spL_join 99 s.data.toList []
  rw [show (99 : UInt8).toNat = 99 from rfl, hP, join_two, Go.Lib.join_one, List.nil_append] at hj
  rw [← hj]
  have e : comL (N.map l1R) = Go.Lib.join N [44] := by
    unfold comL
    rw [List.map_map]
    congr 1
    conv => rhs; rw [← List.map_id N]
    apply List.map_congr_left
    intro p hp
    exact l1R_back p (by have := h2 (l1R p) (List.mem_map.2 ⟨p, hp, rfl⟩); omega)
  rw [e]
  simp
theorem same (s : ByteArray) (hs : s.size ≤ 1048576) : ∃ e : List Int × Int × Bool, Ev (fun k => spec_ParseShelf.f k s) e ∧ Ev (fun k => impl_ParseShelf.f k s) e ∧ e.1.length ≤ 1048576 := by
  have sp : Ev (fun k => spec_ParseShelf.f k s) (shP s) := by
    simp only [spec_ParseShelf.f]
    exact Ev.bind (shParse_ev _ hs) (Ev.now _)
  have im := implParse_ev _ hs
  by_cases V : ∃ (l : List Int) (c : Nat), shOk l c = true ∧ s = shT l c
  · obtain ⟨l, c, h, rfl⟩ := V
    rw [shP_hit l c h] at sp
    rw [imS_hit l c h] at im
    have h1 := shOk_len h
    exact ⟨(l, (c : Int), true), sp, im, by dsimp only; omega⟩
  · refine ⟨([], 0, false), ?_, ?_, by simp⟩
    · have e : shP s = ([], 0, false) := by
        unfold shP
        dsimp only
        split
        · rfl
        · rename_i q
          split
          · rename_i g
            refine absurd ?_ V
            have hl : (spL 99 [] s.data.toList).length = 2 := by
              rw [not_or] at q
              omega
            match hm : spL 99 [] s.data.toList, hl with
            | [p, c], _ =>
              rw [hm] at g
              simp only [List.getD_cons_succ, List.getD_cons_zero] at g
              exact shP_own s (spL 44 [] p) c (by rw [hm]; have := spL_join 44 p []; rw [show (44 : UInt8).toNat = 44 from rfl, List.nil_append] at this; rw [this]) g
          · rfl
      rw [e] at sp
      exact sp
    · unfold imS at im
      dsimp only at im
      rw [if_neg (fun h => V (has_of h.2))] at im
      exact im
theorem FnExactParseShelf : laws_FnExactParseShelf.Pure := by
  intro s _
  refine Ev.rounds (r := true) ?_
  by_cases hs : s.size ≤ 1048576
  · obtain ⟨⟨l, c, b⟩, h1, h2, hr⟩ := same s hs
    dsimp only at hr
    simp only [laws_FnExactParseShelf.f]
    refine ev_else (by omega) ?_
    repeat (first
      | exact Ev.now _
      | (dsimp only)
      | (with_reducible refine Ev.bind h1 ?_)
      | (with_reducible refine Ev.bind h2 ?_)
      | (with_reducible refine Ev.bind (laws_eqShelf_ev _ _ (by omega)) ?_)
      | (with_reducible refine Ev.bind (laws_markShelf_ev _ _ (by omega)) ?_)
      | (with_reducible refine Ev.bind (laws_heldShelf_ev _ _ (by omega)) ?_)
      | (simp only [decide_true, if_true, bne_self_eq_false, Bool.false_eq_true, if_false, neg_no])
      | (refine ev_succ ?_; simp only [laws_FnExactParseShelf.j0, laws_FnExactParseShelf.j1]))
  · simp only [laws_FnExactParseShelf.f]
    refine ev_if (by omega) ?_
    exact Ev.now _

end Go.Proofs.YtdjkmpkgkglidaaDoor.Pure
