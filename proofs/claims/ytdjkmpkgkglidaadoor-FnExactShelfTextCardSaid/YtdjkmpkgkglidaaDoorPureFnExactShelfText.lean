/- The plain law behind FnExactShelfText, in lists and numbers alone: the program's and the reference's text of a shelf are one. No condition beyond the printed bounds. -/
import Derived.Test.YtdjkmpkgkglidaaDoorXFnExactShelfTextx3
set_option linter.unusedVariables false
set_option linter.unusedSimpArgs false
namespace Go.Proofs.YtdjkmpkgkglidaaDoor.Pure
open Go.RowKit Go.Proofs.YtdjkmpkgkglidaaDoor.XFnExactShelfText Go.Proofs.YtdjkmpkgkglidaaDoorW.PrintWords Go.Proofs.YtdjkmpkgkglidaaDoorW.PrintLast Go.Proofs.YtdjkmpkgkglidaaDoorW.PrintMore
/-! ### Small words: rounds, reads, sums without a wrap. -/
theorem ev_some {α β : Type} {g : Option α} {f : Nat → α → Option β} {a : α} {r : β} (h : g = some a) (k : Ev (fun n => f n a) r) : Ev (fun n => g.bind (f n)) r := by
  subst h
  exact k
theorem ev_ret {α : Type} {r s : α} (h : r = s) : Ev (fun _ => some r) s := by
  subst h
  exact Ev.now r
theorem ev_map {α β : Type} {g : Nat → Option α} {f : α → β} {a : α} {r : β} (h : Ev g a) (e : f a = r) : Ev (fun n => (g n).bind fun t => some (f t)) r := Ev.bind h (ev_ret e)
theorem ev_eq {α : Type} {g f : Nat → Option α} {r : α} (h : g = f) (k : Ev f r) : Ev g r := by
  rw [h]
  exact k
theorem w64 {x : Int} (h0 : -9223372036854775808 ≤ x) (h1 : x ≤ 9223372036854775807) : wrap64 x = x := by
  unfold wrap64
  omega
theorem w64s {i : Nat} (h : i < 4611686018427387904) : wrap64 ((i : Int) + 1) = ((i + 1 : Nat) : Int) := by
  rw [w64 (by omega) (by omega)]
  rfl
theorem rd_nat (l : List Int) (i : Nat) (h : i < l.length) : rd l (i : Int) = l[i] := by
  unfold rd
  rw [Int.toNat_natCast, List.getD_eq_getElem?_getD, List.getElem?_eq_getElem h]
  rfl
theorem wf_i64 {x : Int} (h : (Lit.int .i64 x).wf = true) : -9223372036854775808 ≤ x ∧ x ≤ 9223372036854775807 := by
  simp only [Lit.wf, Bool.and_eq_true, decide_eq_true_eq] at h
  exact h
theorem ev_succ {α : Type} {g : Nat → Option α} {r : α} (h : Ev (fun k => g (k + 1)) r) : Ev g r := Ev.step (fun _ => rfl) h
theorem neg_no (n : Nat) : ¬ (1 + (n : Int) < 0) := by omega
theorem ev_if {α : Type} {c : Prop} [Decidable c] {g f : Nat → Option α} {r : α} (h : c) (k : Ev g r) : Ev (fun n => if c then g n else f n) r := Ev.congr (fun _ => if_pos h) k
theorem ev_else {α : Type} {c : Prop} [Decidable c] {g f : Nat → Option α} {r : α} (h : ¬ c) (k : Ev f r) : Ev (fun n => if c then g n else f n) r := Ev.congr (fun _ => if_neg h) k

theorem set_app {α : Type} (a b : List α) (x y : α) (n : Nat) (h : n = a.length) : (a ++ x :: b).set n y = a ++ y :: b := by
  subst h
  simp

theorem laws_toIntS_ev (l : List Int) (hl : l.length ≤ 1048576) : Ev (fun k => laws_toIntS.f k l) l := by
  have key : ∀ (d i : Nat), i + d = l.length → Ev (fun k => laws_toIntS.l0 k l (l.take i ++ List.replicate d 0) (i : Int)) l := by
    intro d
    induction d with
    | zero =>
      intro i h
      refine ev_succ ?_
      simp only [laws_toIntS.l0]
      refine ev_else (by omega) ?_
      refine ev_ret ?_
      rw [List.take_of_length_le (by omega)]
      simp
    | succ d ih =>
      intro i h
      have hi' : i < l.length := by omega
      refine Ev.step (f := fun k => laws_toIntS.l0 k l (l.take (i + 1) ++ List.replicate d 0) ((i + 1 : Nat) : Int)) (fun k => ?_) (ih (i + 1) (by omega))
      simp only [laws_toIntS.l0]
      rw [if_pos (by omega), if_pos (by omega), if_pos (by simp; omega), rd_nat l i hi', w64s (by omega), Int.toNat_natCast, List.replicate_succ, set_app _ _ _ _ _ (by simp; omega), List.take_succ_eq_append_getElem hi']
      simp only [List.append_assoc, List.cons_append, List.nil_append]
  refine ev_eq (f := fun k => laws_toIntS.l0 k l (l.take 0 ++ List.replicate l.length 0) ((0 : Nat) : Int)) ?_ (key l.length 0 (by omega))
  funext k
  simp only [laws_toIntS.f]
  rw [if_pos (by omega), if_pos (by omega)]
  simp

theorem laws_eqIntS_ev (a b : List Int) (hl : a.length ≤ 4611686018427387903) : Ev (fun k => laws_eqIntS.f k a b) (decide (a = b)) := by
  by_cases hlen : a.length = b.length
  · have key : ∀ (d i : Nat), i + d = a.length → Ev (fun k => laws_eqIntS.l0 k a b (i : Int)) (decide (a.drop i = b.drop i)) := by
      intro d
      induction d with
      | zero =>
        intro i h
        rw [List.drop_eq_nil_of_le (by omega), List.drop_eq_nil_of_le (by omega)]
        refine ev_succ ?_
        simp only [laws_eqIntS.l0]
        refine ev_else (by omega) ?_
        exact ev_ret (by simp)
      | succ d ih =>
        intro i h
        have h1 : i < a.length := by omega
        have h2 : i < b.length := by omega
        rw [List.drop_eq_getElem_cons h1, List.drop_eq_getElem_cons h2]
        refine Ev.step (f := fun k => if a[i] = b[i] then laws_eqIntS.l0 k a b ((i + 1 : Nat) : Int) else some false) (fun k => by simp only [laws_eqIntS.l0]; rw [if_pos (by omega), if_pos (by omega), if_pos (by omega), rd_nat a i h1, rd_nat b i h2, w64s (by omega)]) ?_
        by_cases c : a[i] = b[i]
        · simp only [c, if_true, List.cons.injEq, true_and]
          exact ih (i + 1) (by omega)
        · simp only [c, if_false, List.cons.injEq, false_and, decide_false]
          exact Ev.now _
    refine ev_eq (f := fun k => laws_eqIntS.l0 k a b ((0 : Nat) : Int)) ?_ (key a.length 0 (by omega))
    funext k
    simp only [laws_eqIntS.f]
    rw [if_pos (by omega)]
    rfl
  · refine ev_eq (f := fun _ => some false) ?_ (ev_ret (by simp; intro h; exact hlen (by rw [h])))
    funext k
    simp only [laws_eqIntS.f]
    rw [if_neg (by omega)]

theorem spec_l1In_eq (x lo hi : Int) : spec_l1In.f x lo hi = some (decide (lo ≤ x ∧ x ≤ hi)) := by
  unfold spec_l1In.f
  by_cases c : x ≥ lo
  · rw [if_pos c]
    congr 1
    simp only [c, true_and]
  · rw [if_neg c]
    congr 1
    exact (decide_eq_false (fun h => c h.1)).symm

theorem spec_l1All_ev (lo hi : Int) (l : List Int) (hl : l.length ≤ 4611686018427387903) : Ev (fun k => spec_l1All.f k l lo hi) (l.all fun x => decide (lo ≤ x ∧ x ≤ hi)) := by
  have key : ∀ (d i : Nat), i + d = l.length → Ev (fun k => spec_l1All.l0 k lo hi l (l.length : Int) (i : Int)) ((l.drop i).all fun x => decide (lo ≤ x ∧ x ≤ hi)) := by
    intro d
    induction d with
    | zero =>
      intro i h
      rw [List.drop_eq_nil_of_le (by omega)]
      exact Ev.step (f := fun _ => some true) (fun k => by simp only [spec_l1All.l0]; rw [if_neg (by omega)]) (Ev.now _)
    | succ d ih =>
      intro i h
      have hi' : i < l.length := by omega
      rw [List.drop_eq_getElem_cons hi', List.all_cons]
      refine Ev.step (f := fun k => (spec_l1In.f l[i] lo hi).bind fun t => if t = true then spec_l1All.l0 k lo hi l (l.length : Int) ((i + 1 : Nat) : Int) else some false) (fun k => by simp only [spec_l1All.l0]; rw [if_pos (by omega), if_pos (by omega), if_pos (by omega), rd_nat l i hi', w64s (by omega)]) ?_
      refine ev_some (spec_l1In_eq _ _ _) ?_
      by_cases c : lo ≤ l[i] ∧ l[i] ≤ hi
      · simp only [c, and_self, decide_true, if_true, Bool.true_and]
        exact ih (i + 1) (by omega)
      · simp only [c, decide_false, Bool.false_and, Bool.false_eq_true, if_false]
        exact Ev.now _
  exact key l.length 0 (by omega)

theorem impl_within_eq (x lo hi : Int) : impl_within.f x lo hi = some (decide (lo ≤ x ∧ x ≤ hi)) := by
  unfold impl_within.f
  by_cases c : x ≥ lo
  · rw [if_pos c]
    congr 1
    simp only [c, true_and]
  · rw [if_neg c]
    congr 1
    exact (decide_eq_false (fun h => c h.1)).symm

theorem impl_allWithin_ev (lo hi : Int) (l : List Int) (hl : l.length ≤ 4611686018427387903) : Ev (fun k => impl_allWithin.f k l lo hi) (l.all fun x => decide (lo ≤ x ∧ x ≤ hi)) := by
  have key : ∀ (d i : Nat), i + d = l.length → Ev (fun k => impl_allWithin.l0 k lo hi l (l.length : Int) (i : Int)) ((l.drop i).all fun x => decide (lo ≤ x ∧ x ≤ hi)) := by
    intro d
    induction d with
    | zero =>
      intro i h
      rw [List.drop_eq_nil_of_le (by omega)]
      exact Ev.step (f := fun _ => some true) (fun k => by simp only [impl_allWithin.l0]; rw [if_neg (by omega)]) (Ev.now _)
    | succ d ih =>
      intro i h
      have hi' : i < l.length := by omega
      rw [List.drop_eq_getElem_cons hi', List.all_cons]
      refine Ev.step (f := fun k => (impl_within.f l[i] lo hi).bind fun t => if t = true then impl_allWithin.l0 k lo hi l (l.length : Int) ((i + 1 : Nat) : Int) else some false) (fun k => by simp only [impl_allWithin.l0]; rw [if_pos (by omega), if_pos (by omega), if_pos (by omega), rd_nat l i hi', w64s (by omega)]) ?_
      refine ev_some (impl_within_eq _ _ _) ?_
      by_cases c : lo ≤ l[i] ∧ l[i] ≤ hi
      · simp only [c, and_self, decide_true, if_true, Bool.true_and]
        exact ih (i + 1) (by omega)
      · simp only [c, decide_false, Bool.false_and, Bool.false_eq_true, if_false]
        exact Ev.now _
  exact key l.length 0 (by omega)

theorem laws_szShelf_ok (l : List Int) (c : Int) (h : l.length ≤ 1048576) : laws_szShelf.f l c 1048576 = some (1048576 - (l.length : Int)) := by
  simp only [laws_szShelf.f, laws_szIntS.f]
  rw [w64 (by omega) (by omega), if_neg (by omega)]
  simp only [Option.bind_some]
  rw [if_neg (by omega)]
theorem laws_szShelf_no (l : List Int) (c : Int) (h : ¬ l.length ≤ 1048576) (hm : l.length ≤ maxLen) : laws_szShelf.f l c 1048576 = some (-1) := by
  unfold maxLen at hm
  simp only [laws_szShelf.f, laws_szIntS.f]
  rw [w64 (by omega) (by omega), if_pos (by omega)]
  simp
theorem laws_toShelf_ev (l : List Int) (c : Int) (h : l.length ≤ 1048576) : Ev (fun k => laws_toShelf.f k l c) (l, c) := by
  simp only [laws_toShelf.f]
  exact ev_map (laws_toIntS_ev l h) rfl
theorem laws_eqShelf_ev (l : List Int) (c : Int) (h : l.length ≤ 1048576) : Ev (fun k => laws_eqShelf.f k l c l c) true := by
  simp only [laws_eqShelf.f]
  refine Ev.bind (laws_eqIntS_ev l l (by omega)) ?_
  simp only [decide_true, if_true]
  exact Ev.now _
def shOk (l : List Int) (c : Int) : Bool := decide (1 ≤ (l.length : Int) ∧ (l.length : Int) ≤ 8) && ((l.all fun x => decide (1 ≤ x ∧ x ≤ 100)) && decide (0 ≤ c ∧ c ≤ 10))
theorem shOk_len {l : List Int} {c : Int} (h : shOk l c = true) : 1 ≤ l.length ∧ l.length ≤ 8 := by
  simp only [shOk, Bool.and_eq_true, decide_eq_true_eq] at h
  omega
theorem shOk_all {l : List Int} {c : Int} (h : shOk l c = true) : ∀ x ∈ l, 1 ≤ x ∧ x ≤ 100 := by
  simp only [shOk, Bool.and_eq_true, List.all_eq_true, decide_eq_true_eq] at h
  exact h.2.1
theorem shOk_cover {l : List Int} {c : Int} (h : shOk l c = true) : 0 ≤ c ∧ c ≤ 10 := by
  simp only [shOk, Bool.and_eq_true, decide_eq_true_eq] at h
  exact h.2.2
theorem spec_shGood_ev (l : List Int) (c : Int) (hl : l.length ≤ 1048576) : Ev (fun k => spec_shGood.f k l c) (shOk l c) := by
  simp only [spec_shGood.f, shOk]
  refine ev_some (spec_l1In_eq _ _ _) ?_
  by_cases a : 1 ≤ (l.length : Int) ∧ (l.length : Int) ≤ 8
  · simp only [a, and_self, decide_true, if_true, Bool.true_and]
    refine Ev.bind (spec_l1All_ev 1 100 l (by omega)) ?_
    by_cases b : (l.all fun x => decide (1 ≤ x ∧ x ≤ 100)) = true
    · simp only [b, if_true, Bool.true_and]
      refine ev_some (spec_l1In_eq _ _ _) ?_
      exact Ev.now _
    · simp only [b, Bool.false_eq_true, if_false, Bool.false_and]
      exact Ev.now _
  · simp only [a, decide_false, Bool.false_and, Bool.false_eq_true, if_false]
    exact Ev.now _
theorem impl_IsShelf_ev (l : List Int) (c : Int) (hl : l.length ≤ 1048576) : Ev (fun k => impl_IsShelf.f k l c) (shOk l c) := by
  simp only [impl_IsShelf.f, shOk]
  refine ev_some (impl_within_eq _ _ _) ?_
  by_cases a : 1 ≤ (l.length : Int) ∧ (l.length : Int) ≤ 8
  · simp only [a, and_self, decide_true, if_true, Bool.true_and]
    refine Ev.bind (impl_allWithin_ev 1 100 l (by omega)) ?_
    by_cases b : (l.all fun x => decide (1 ≤ x ∧ x ≤ 100)) = true
    · simp only [b, if_true, Bool.true_and]
      refine ev_some (impl_within_eq _ _ _) ?_
      exact Ev.now _
    · simp only [b, Bool.false_eq_true, if_false, Bool.false_and]
      exact Ev.now _
  · simp only [a, decide_false, Bool.false_and, Bool.false_eq_true, if_false]
    exact Ev.now _

/-- A number's digits, as a text. -/
def numT (n : Nat) : ByteArray := ⟨(Go.Lib.decDigits n).toArray⟩
theorem numT_size (n : Nat) : (numT n).size = (Go.Lib.decDigits n).length := by simp [numT, ByteArray.size]
theorem dec_len : ∀ (j n : Nat), 1 ≤ j → n < 10 ^ j → (Go.Lib.decDigits n).length ≤ j
  | 0, _, h, _ => by omega
  | j + 1, n, _, h => by
    rw [Go.Lib.decDigits]
    by_cases c : n < 10
    · rw [dif_pos c]; simp
    · rw [dif_neg c, List.length_append, List.length_singleton]
      have hj : 1 ≤ j := by
        rcases Nat.eq_zero_or_pos j with z | z
        · subst z; simp at h; omega
        · exact z
      have := dec_len j (n / 10) hj (by rw [Nat.pow_succ] at h; omega)
      omega
theorem numT_le (n : Nat) (h : n ≤ 1000000) : 1 ≤ (numT n).size ∧ (numT n).size ≤ 21 := by
  rw [numT_size]
  refine ⟨?_, ?_⟩
  · rw [Go.Lib.decDigits]
    split <;> simp
  · have := dec_len 7 n (by omega) (by omega)
    omega
theorem ba_ext {x y : ByteArray} (h : x.data.toList = y.data.toList) : x = y := by
  cases x; cases y
  congr 1
  exact Array.toList_inj.1 h
theorem itoa_is (n : Nat) (h : n ≤ 1000000) : strconv_Itoa.f (n : Int) = some (numT n) := by
  unfold strconv_Itoa.f
  rw [if_pos (by omega), Go.Lib.itoa_nonneg]
  rfl
theorem byte_of (d : Nat) (h : d < 10) : strOfNums [(wrap64 (48 + (d : Int))) % 256] = ⟨#[UInt8.ofNat (48 + d)]⟩ := by
  rw [w64 (by omega) (by omega)]
  unfold strOfNums
  simp only [List.map_cons, List.map_nil]
  rw [show ((48 + (d : Int)) % 256).toNat = 48 + d by omega]
theorem dec_big {n : Nat} (c : ¬ n < 10) : Go.Lib.decDigits n = Go.Lib.decDigits (n / 10) ++ [UInt8.ofNat (48 + n % 10)] := by
  rw [Go.Lib.decDigits, dif_neg c]
theorem l1Num_ev : ∀ (n : Nat), n ≤ 1000000 → Ev (fun k => spec_l1Num.f k (n : Int)) (numT n) := by
  intro n
  induction n using Nat.strongRecOn with
  | _ n ih =>
    intro h
    refine ev_succ ?_
    simp only [spec_l1Num.f]
    by_cases c : n < 10
    · refine ev_if (by omega) ?_
      refine ev_ret ?_
      rw [byte_of n c]
      unfold numT
      rw [Go.Lib.decDigits, dif_pos c]
    · refine ev_else (by omega) ?_
      have e1 : wrap64 (Int.tdiv (n : Int) 10) = ((n / 10 : Nat) : Int) := by
        rw [Int.tdiv_eq_ediv_of_nonneg (by omega), w64 (by omega) (by omega)]
        omega
      have e2 : Int.tmod (n : Int) 10 = ((n % 10 : Nat) : Int) := by
        rw [Int.tmod_eq_emod_of_nonneg (by omega)]
        omega
      simp only [Option.bind_some]
      rw [e1, e2, byte_of (n % 10) (by omega)]
      refine Ev.bind (ih (n / 10) (by omega) (by omega)) ?_
      have hs := numT_le (n / 10) (by omega)
      have h1 : (ByteArray.mk #[UInt8.ofNat (48 + n % 10)]).size = 1 := rfl
      refine ev_if (by omega) ?_
      refine ev_ret ?_
      apply ba_ext
      show ((numT (n / 10)).append _).data.toList = _
      unfold numT
      rw [dec_big c]
      simp [ByteArray.append, ByteArray.copySlice, ByteArray.size]

/-- A number's digits, as a list of bytes. -/
def digs (x : Int) : List UInt8 := Go.Lib.decDigits x.toNat
theorem numT_digs (n : Nat) : (numT n).data.toList = digs (n : Int) := by simp [numT, digs]
/-- The elements, joined by commas. -/
def comL (l : List Int) : List UInt8 := Go.Lib.join (l.map digs) [44]
theorem comL_one (x : Int) : comL [x] = digs x := Go.Lib.join_one _ _
theorem joinTail_snoc (sep : List UInt8) (r : List (List UInt8)) (y : List UInt8) : Go.Lib.joinTail sep (r ++ [y]) = Go.Lib.joinTail sep r ++ sep ++ y := by
  simp [Go.Lib.joinTail, List.append_assoc]
theorem comL_snoc (a : Int) (l : List Int) (x : Int) : comL (a :: l ++ [x]) = comL (a :: l) ++ [44] ++ digs x := by
  unfold comL
  simp only [List.cons_append, List.map_cons, List.map_append, List.map_nil]
  rw [Go.Lib.join_cons, Go.Lib.join_cons, joinTail_snoc]
  simp [List.append_assoc]
theorem digs_le (x : Int) (h : x ≤ 1000000) : (digs x).length ≤ 21 := by
  have := numT_le x.toNat (by omega)
  rw [numT_size] at this
  exact this.2
theorem joinTail_le (r : List Int) (h : ∀ x ∈ r, x ≤ 1000000) : (Go.Lib.joinTail [44] (r.map digs)).length ≤ 22 * r.length := by
  induction r with
  | nil => simp [Go.Lib.joinTail]
  | cons y r ih =>
    have h1 := ih (fun x hx => h x (List.mem_cons_of_mem _ hx))
    have h2 := digs_le y (h y (List.mem_cons_self))
    simp only [Go.Lib.joinTail, List.map_cons, List.flatten_cons, List.length_append, List.length_cons, List.length_nil] at h1 ⊢
    omega
theorem comL_le (l : List Int) (h : ∀ x ∈ l, x ≤ 1000000) : (comL l).length ≤ 22 * l.length := by
  cases l with
  | nil => simp [comL, Go.Lib.join_nil]
  | cons a l =>
    unfold comL
    rw [List.map_cons, Go.Lib.join_cons, List.length_append, List.length_cons]
    have h1 := joinTail_le l (fun x hx => h x (List.mem_cons_of_mem _ hx))
    have h2 := digs_le a (h a (List.mem_cons_self))
    omega
def comT (l : List Int) : ByteArray := ⟨(comL l).toArray⟩
theorem comT_size (l : List Int) : (comT l).size = (comL l).length := by simp [comT, ByteArray.size]
/-- The text of a shelf. -/
def shT (l : List Int) (c : Nat) : ByteArray := comT l ++ ⟨#[99]⟩ ++ numT c
theorem sz44 : (ByteArray.mk #[44]).size = 1 := rfl
theorem sz99 : (ByteArray.mk #[99]).size = 1 := rfl
theorem ba_app (x y : ByteArray) : (x ++ y).data.toList = x.data.toList ++ y.data.toList := by
  show (x.append y).data.toList = _
  simp [ByteArray.append, ByteArray.copySlice, ByteArray.size]
theorem comT_snoc (a : Int) (l : List Int) (x : Nat) : comT (a :: l ++ [(x : Int)]) = comT (a :: l) ++ ⟨#[44]⟩ ++ numT x := by
  apply ba_ext
  rw [ba_app, ba_app, numT_digs]
  show comL _ = comL _ ++ [44] ++ _
  exact comL_snoc a l x
theorem comT_take (l : List Int) (i : Nat) (h0 : 0 < i) (hi : i < l.length) (x : Nat) (hx : l[i] = (x : Int)) : comT (l.take i) ++ ⟨#[44]⟩ ++ numT x = comT (l.take (i + 1)) := by
  cases l with
  | nil => simp at hi
  | cons a l =>
    obtain ⟨j, rfl⟩ : ∃ j, i = j + 1 := ⟨i - 1, by omega⟩
    rw [List.take_succ_cons, List.take_succ_cons, ← comT_snoc, List.cons_append, List.length_cons] at *
    congr 2
    rw [List.take_add_one, List.getElem?_eq_getElem (by omega)]
    rw [List.getElem_cons_succ] at hx
    rw [hx]
    rfl
theorem comT_le (l : List Int) (h : ∀ x ∈ l, x ≤ 1000000) (hl : l.length ≤ 8) : (comT l).size ≤ 176 := by
  have := comL_le l h
  rw [comT_size]
  omega
theorem spec_shText_ev (l : List Int) (c : Nat) (ht : ∀ x ∈ l, 0 ≤ x ∧ x ≤ 1000000) (hl : l.length ≤ 8) (hc : c ≤ 1000000) : Ev (fun k => spec_shText.f k l (c : Int)) (shT l c) := by
  have key : ∀ (d i : Nat), i + d = l.length → Ev (fun k => spec_shText.l0 k (comT (l.take i)) l (l.length : Int) (i : Int) l (c : Int)) (shT l c) := by
    intro d
    induction d with
    | zero =>
      intro i h
      rw [List.take_of_length_le (by omega)]
      have s1 := comT_le l (fun x hx => (ht x hx).2) hl
      have s2 := numT_le c hc
      refine ev_succ ?_
      simp only [spec_shText.l0]
      refine ev_else (by omega) ?_
      refine ev_if (by omega) ?_
      refine Ev.bind (l1Num_ev c hc) ?_
      refine ev_if (by rw [ByteArray.size_append, sz99]; omega) ?_
      exact Ev.now _
    | succ d ih =>
      intro i h
      have hi : i < l.length := by omega
      obtain ⟨x, hx⟩ := Int.eq_ofNat_of_zero_le (ht l[i] (List.getElem_mem hi)).1
      have hb := (ht l[i] (List.getElem_mem hi)).2
      have s1 := comT_le (l.take i) (fun x hx => (ht x (List.mem_of_mem_take hx)).2) (by rw [List.length_take]; omega)
      have s2 := numT_le x (by omega)
      refine ev_succ ?_
      simp only [spec_shText.l0]
      refine ev_if (by omega) ?_
      refine ev_if (by omega) ?_
      refine ev_if (by omega) ?_
      simp only [rd_nat l i hi, hx, w64s (show i < 4611686018427387904 by omega)]
      by_cases p : 0 < i
      · refine ev_if (by omega) ?_
        refine ev_if (by omega) ?_
        refine Ev.bind (l1Num_ev x (by omega)) ?_
        refine ev_if (by rw [ByteArray.size_append, sz44]; omega) ?_
        rw [comT_take l i p hi x hx]
        exact ih (i + 1) (by omega)
      · refine ev_else (by omega) ?_
        refine Ev.bind (l1Num_ev x (by omega)) ?_
        refine ev_if (by omega) ?_
        have e : comT (l.take i) ++ numT x = comT (l.take (i + 1)) := by
          have : i = 0 := by omega
          subst this
          apply ba_ext
          rw [ba_app, numT_digs, ← hx]
          cases l with
          | nil => simp at hi
          | cons a l =>
            show comL [] ++ digs a = comL [a]
            rw [comL_one]
            rfl
        rw [e]
        exact ih (i + 1) (by omega)
  have := key l.length 0 (by omega)
  exact this
theorem impl_joined_ev (l : List Int) (ht : ∀ x ∈ l, 0 ≤ x ∧ x ≤ 1000000) (hl : l.length ≤ 8) : Ev (fun k => impl_joined.f k l (⟨#[44]⟩ : ByteArray)) (comT l) := by
  have fin : strings_Join.f (l.map fun x => numT x.toNat) (⟨#[44]⟩ : ByteArray) = some (comT l) := by
    have e : strings_Join.text (l.map fun x => numT x.toNat) (⟨#[44]⟩ : ByteArray) = comL l := by
      unfold strings_Join.text comL
      rw [List.map_map]
      congr 1
    unfold strings_Join.f
    have := comL_le l (fun x hx => (ht x hx).2)
    rw [e, if_pos ⟨by rw [List.length_map]; omega, by omega⟩]
    rfl
  have key : ∀ (d i : Nat), i + d = l.length → Ev (fun k => impl_joined.l0 k (⟨#[44]⟩ : ByteArray) ((l.take i).map fun x => numT x.toNat) l (l.length : Int) (i : Int)) (comT l) := by
    intro d
    induction d with
    | zero =>
      intro i h
      rw [List.take_of_length_le (by omega)]
      refine ev_succ ?_
      simp only [impl_joined.l0]
      refine ev_else (by omega) ?_
      refine ev_some fin ?_
      exact Ev.now _
    | succ d ih =>
      intro i h
      have hi : i < l.length := by omega
      obtain ⟨x, hx⟩ := Int.eq_ofNat_of_zero_le (ht l[i] (List.getElem_mem hi)).1
      have hb := (ht l[i] (List.getElem_mem hi)).2
      refine ev_succ ?_
      simp only [impl_joined.l0]
      refine ev_if (by omega) ?_
      refine ev_if (by omega) ?_
      refine ev_if (by omega) ?_
      simp only [rd_nat l i hi, hx, w64s (show i < 4611686018427387904 by omega)]
      refine ev_some (itoa_is x (by omega)) ?_
      refine ev_if (by rw [List.length_map, List.length_take]; omega) ?_
      have e : ((l.take i).map fun x => numT x.toNat) ++ [numT x] = (l.take (i + 1)).map fun x => numT x.toNat := by
        rw [List.take_add_one, List.getElem?_eq_getElem hi, hx, List.map_append]
        rfl
      rw [e]
      exact ih (i + 1) (by omega)
  exact key l.length 0 (by omega)
theorem impl_shelfText_ev (l : List Int) (c : Nat) (ht : ∀ x ∈ l, 0 ≤ x ∧ x ≤ 1000000) (hl : l.length ≤ 8) (hc : c ≤ 1000000) : Ev (fun k => impl_shelfText.f k l (c : Int)) (shT l c) := by
  have s1 := comT_le l (fun x hx => (ht x hx).2) hl
  have s2 := numT_le c hc
  simp only [impl_shelfText.f]
  refine Ev.bind (impl_joined_ev l ht hl) ?_
  refine ev_if (by omega) ?_
  refine ev_some (itoa_is c hc) ?_
  refine ev_if (by rw [ByteArray.size_append, sz99]; omega) ?_
  exact Ev.now _

theorem same (l : List Int) (c : Int) (hl : l.length ≤ 1048576) : ∃ e : ByteArray × Bool, Ev (fun k => spec_ShelfText.f k l c) e ∧ Ev (fun k => impl_ShelfText.f k l c) e := by
  simp only [spec_ShelfText.f, impl_ShelfText.f]
  by_cases h : shOk l c = true
  · have h1 := shOk_len h
    have h2 := shOk_all h
    have h3 := shOk_cover h
    obtain ⟨c, rfl⟩ := Int.eq_ofNat_of_zero_le h3.1
    refine ⟨(shT l c, true), Ev.bind (spec_shGood_ev l c hl) ?_, Ev.bind (impl_IsShelf_ev l c hl) ?_⟩
    · refine ev_if h ?_
      exact Ev.bind (spec_shText_ev l c (fun x hx => by have := h2 x hx; omega) (by omega) (by omega)) (Ev.now _)
    · refine ev_if h ?_
      exact Ev.bind (impl_shelfText_ev l c (fun x hx => by have := h2 x hx; omega) (by omega) (by omega)) (Ev.now _)
  · refine ⟨(⟨#[]⟩, false), Ev.bind (spec_shGood_ev l c hl) ?_, Ev.bind (impl_IsShelf_ev l c hl) ?_⟩
    all_goals
      refine ev_else h ?_
      exact Ev.now _
theorem FnExactShelfText : ∀ (l : List Int) (c : Int), l.length ≤ maxLen → (∀ x ∈ l, (Lit.int .i64 x).wf = true) → (Lit.int .i64 c).wf = true → ∃ k, laws_FnExactShelfText.f k l c = some true := by
  intro l c hm _ _
  refine Ev.rounds (r := true) ?_
  by_cases hl : l.length ≤ 1048576
  · obtain ⟨r, h1, h2⟩ := same l c hl
    simp only [laws_FnExactShelfText.f]
    refine ev_some (laws_szShelf_ok l c hl) ?_
    refine ev_else (by omega) ?_
    refine Ev.bind (laws_toShelf_ev l c hl) ?_
    refine Ev.bind h1 ?_
    refine Ev.bind (laws_toShelf_ev l c hl) ?_
    refine Ev.bind h2 ?_
    refine ev_if rfl ?_
    refine ev_succ ?_
    simp only [laws_FnExactShelfText.j0]
    refine ev_else (by simp) ?_
    refine Ev.bind (laws_toShelf_ev l c hl) ?_
    refine Ev.bind (laws_eqShelf_ev l c hl) ?_
    refine ev_if rfl ?_
    exact Ev.now _
  · simp only [laws_FnExactShelfText.f]
    refine ev_some (laws_szShelf_no l c hl hm) ?_
    refine ev_if (by omega) ?_
    exact Ev.now _

end Go.Proofs.YtdjkmpkgkglidaaDoor.Pure
