/- The plain law behind FnExactParseReader, in lists and numbers alone: the program's and the reference's reader with a text are one. No condition beyond the printed bounds. -/
import Derived.Test.YtnlbcfeblkafjaaDoorXFnExactParseReaderx5
set_option linter.unusedVariables false
set_option linter.unusedSimpArgs false
namespace Go.Proofs.YtnlbcfeblkafjaaDoor.Pure
open Go.RowKit Go.Proofs.YtnlbcfeblkafjaaDoor.XFnExactParseReader Go.Proofs.YtnlbcfeblkafjaaDoorW.PrintWords Go.Proofs.YtnlbcfeblkafjaaDoorW.PrintLast Go.Proofs.YtnlbcfeblkafjaaDoorW.PrintMore
/-! ### Small words: rounds, reads, sums without a wrap. -/
theorem ev_some {α β : Type} {g : Option α} {f : Nat → α → Option β} {a : α} {r : β} (h : g = some a) (k : Ev (fun n => f n a) r) : Ev (fun n => g.bind (f n)) r := by
  subst h
  exact k
theorem ev_ret {α : Type} {r s : α} (h : r = s) : Ev (fun _ => some r) s := by
  subst h
  exact Ev.now r
theorem ev_map {α β : Type} {g : Nat → Option α} {f : α → β} {a : α} {r : β} (h : Ev g a) (e : f a = r) : Ev (fun n => (g n).bind fun t => some (f t)) r := Ev.bind h (ev_ret e)
theorem ev_eq {α : Type} {g f : Nat → Option α} {r : α} (h : g = f) (k : Ev f r) : Ev g r := by
  rw [h]
  exact k
theorem w64 {x : Int} (h0 : -9223372036854775808 ≤ x) (h1 : x ≤ 9223372036854775807) : wrap64 x = x := by
  unfold wrap64
  omega
theorem w64s {i : Nat} (h : i < 4611686018427387904) : wrap64 ((i : Int) + 1) = ((i + 1 : Nat) : Int) := by
  rw [w64 (by omega) (by omega)]
  rfl
theorem rd_nat (l : List Int) (i : Nat) (h : i < l.length) : rd l (i : Int) = l[i] := by
  unfold rd
  rw [Int.toNat_natCast, List.getD_eq_getElem?_getD, List.getElem?_eq_getElem h]
  rfl
theorem wf_i64 {x : Int} (h : (Lit.int .i64 x).wf = true) : -9223372036854775808 ≤ x ∧ x ≤ 9223372036854775807 := by
  simp only [Lit.wf, Bool.and_eq_true, decide_eq_true_eq] at h
  exact h
theorem ev_succ {α : Type} {g : Nat → Option α} {r : α} (h : Ev (fun k => g (k + 1)) r) : Ev g r := Ev.step (fun _ => rfl) h
theorem neg_no (n : Nat) : ¬ (1 + (n : Int) < 0) := by omega
theorem ev_if {α : Type} {c : Prop} [Decidable c] {g f : Nat → Option α} {r : α} (h : c) (k : Ev g r) : Ev (fun n => if c then g n else f n) r := Ev.congr (fun _ => if_pos h) k
theorem ev_else {α : Type} {c : Prop} [Decidable c] {g f : Nat → Option α} {r : α} (h : ¬ c) (k : Ev f r) : Ev (fun n => if c then g n else f n) r := Ev.congr (fun _ => if_neg h) k

/-- A number's digits, as a text. -/
def numT (n : Nat) : ByteArray := ⟨(Go.Lib.decDigits n).toArray⟩
theorem numT_size (n : Nat) : (numT n).size = (Go.Lib.decDigits n).length := by simp [numT, ByteArray.size]
theorem dec_len : ∀ (j n : Nat), 1 ≤ j → n < 10 ^ j → (Go.Lib.decDigits n).length ≤ j
  | 0, _, h, _ => by omega
  | j + 1, n, _, h => by
    rw [Go.Lib.decDigits]
    by_cases c : n < 10
    · rw [dif_pos c]; simp
    · rw [dif_neg c, List.length_append, List.length_singleton]
      have hj : 1 ≤ j := by
        rcases Nat.eq_zero_or_pos j with z | z
        · subst z; simp at h; omega
        · exact z
      have := dec_len j (n / 10) hj (by rw [Nat.pow_succ] at h; omega)
      omega
theorem numT_le (n : Nat) (h : n ≤ 1000000) : 1 ≤ (numT n).size ∧ (numT n).size ≤ 21 := by
  rw [numT_size]
  refine ⟨?_, ?_⟩
  · rw [Go.Lib.decDigits]
    split <;> simp
  · have := dec_len 7 n (by omega) (by omega)
    omega
theorem ba_ext {x y : ByteArray} (h : x.data.toList = y.data.toList) : x = y := by
  cases x; cases y
  congr 1
  exact Array.toList_inj.1 h
theorem itoa_is (n : Nat) (h : n ≤ 1000000) : strconv_Itoa.f (n : Int) = some (numT n) := by
  unfold strconv_Itoa.f
  rw [if_pos (by omega), Go.Lib.itoa_nonneg]
  rfl
theorem dec_big {n : Nat} (c : ¬ n < 10) : Go.Lib.decDigits n = Go.Lib.decDigits (n / 10) ++ [UInt8.ofNat (48 + n % 10)] := by
  rw [Go.Lib.decDigits, dif_neg c]

theorem byte_of (d : Nat) (h : d < 10) : strOfNums [(wrap64 (48 + (d : Int))) % 256] = ⟨#[UInt8.ofNat (48 + d)]⟩ := by
  rw [w64 (by omega) (by omega)]
  unfold strOfNums
  simp only [List.map_cons, List.map_nil]
  rw [show ((48 + (d : Int)) % 256).toNat = 48 + d by omega]
theorem l1Num_ev : ∀ (n : Nat), n ≤ 1000000 → Ev (fun k => spec_l1Num.f k (n : Int)) (numT n) := by
  intro n
  induction n using Nat.strongRecOn with
  | _ n ih =>
    intro h
    refine ev_succ ?_
    simp only [spec_l1Num.f]
    by_cases c : n < 10
    · refine ev_if (by omega) ?_
      refine ev_ret ?_
      rw [byte_of n c]
      unfold numT
      rw [Go.Lib.decDigits, dif_pos c]
    · refine ev_else (by omega) ?_
      have e1 : wrap64 (Int.tdiv (n : Int) 10) = ((n / 10 : Nat) : Int) := by
        rw [Int.tdiv_eq_ediv_of_nonneg (by omega), w64 (by omega) (by omega)]
        omega
      have e2 : Int.tmod (n : Int) 10 = ((n % 10 : Nat) : Int) := by
        rw [Int.tmod_eq_emod_of_nonneg (by omega)]
        omega
      simp only [Option.bind_some]
      rw [e1, e2, byte_of (n % 10) (by omega)]
      refine Ev.bind (ih (n / 10) (by omega) (by omega)) ?_
      have hs := numT_le (n / 10) (by omega)
      have h1 : (ByteArray.mk #[UInt8.ofNat (48 + n % 10)]).size = 1 := rfl
      refine ev_if (by omega) ?_
      refine ev_ret ?_
      apply ba_ext
      show ((numT (n / 10)).append _).data.toList = _
      unfold numT
      rw [dec_big c]
      simp [ByteArray.append, ByteArray.copySlice, ByteArray.size]

theorem spec_l1In_eq (x lo hi : Int) : spec_l1In.f x lo hi = some (decide (lo ≤ x ∧ x ≤ hi)) := by
  unfold spec_l1In.f
  by_cases c : x ≥ lo
  · rw [if_pos c]
    congr 1
    simp only [c, true_and]
  · rw [if_neg c]
    congr 1
    exact (decide_eq_false (fun h => c h.1)).symm

theorem impl_within_eq (x lo hi : Int) : impl_within.f x lo hi = some (decide (lo ≤ x ∧ x ≤ hi)) := by
  unfold impl_within.f
  by_cases c : x ≥ lo
  · rw [if_pos c]
    congr 1
    simp only [c, true_and]
  · rw [if_neg c]
    congr 1
    exact (decide_eq_false (fun h => c h.1)).symm

def rOk (m d r : Int) : Bool := decide (0 ≤ m ∧ m ≤ 2000) && (decide (1 ≤ d ∧ d ≤ 200) && (decide (r = 0) || decide (2 ≤ r ∧ r ≤ 60)))
theorem rOk_is {m d r : Int} (h : rOk m d r = true) : (0 ≤ m ∧ m ≤ 2000) ∧ (1 ≤ d ∧ d ≤ 200) ∧ (r = 0 ∨ 2 ≤ r ∧ r ≤ 60) := by
  simp only [rOk, Bool.and_eq_true, Bool.or_eq_true, decide_eq_true_eq] at h
  exact h
theorem spec_rdGood_eq (m d r : Int) : spec_rdGood.f m d r = some (rOk m d r) := by
  simp only [spec_rdGood.f, spec_l1In_eq, Option.bind_some, rOk]
  by_cases a : 0 ≤ m ∧ m ≤ 2000
  · by_cases b : 1 ≤ d ∧ d ≤ 200
    · by_cases c : r = 0
      · simp [a, b, c]
      · simp [a, b, c]
    · simp [a, b]
  · simp [a]

/-- The text of a reader. -/
def rText (m d r : Nat) : ByteArray := if r = 0 then numT m ++ ⟨#[43]⟩ ++ numT d else numT m ++ ⟨#[43]⟩ ++ numT d ++ (⟨#[47]⟩ ++ numT r)
theorem sz43 : (ByteArray.mk #[43]).size = 1 := rfl
theorem sz47 : (ByteArray.mk #[47]).size = 1 := rfl
theorem rdText_ev (m d r : Nat) (hm : m ≤ 2000) (hd : d ≤ 200) (hr : r ≤ 60) : Ev (fun k => spec_rdText.f k (m : Int) (d : Int) (r : Int)) (rText m d r) := by
  have s1 := numT_le m (by omega)
  have s2 := numT_le d (by omega)
  have s3 := numT_le r (by omega)
  simp only [spec_rdText.f, rText]
  refine Ev.bind (l1Num_ev m (by omega)) ?_
  refine ev_if (by omega) ?_
  refine Ev.bind (l1Num_ev d (by omega)) ?_
  refine ev_if (by rw [ByteArray.size_append, sz43]; omega) ?_
  by_cases c : r = 0
  · rw [if_pos c]
    refine ev_else (by omega) ?_
    exact Ev.now _
  · rw [if_neg c]
    refine ev_if (by omega) ?_
    refine Ev.bind (l1Num_ev r (by omega)) ?_
    refine ev_if (by omega) ?_
    refine ev_if (by rw [ByteArray.size_append, ByteArray.size_append, ByteArray.size_append, sz43, sz47]; omega) ?_
    exact Ev.now _
theorem readerText_is (m d r : Nat) (hm : m ≤ 2000) (hd : d ≤ 200) (hr : r ≤ 60) : impl_readerText.f (m : Int) (d : Int) (r : Int) = some (rText m d r) := by
  have s1 := numT_le m (by omega)
  have s2 := numT_le d (by omega)
  have s3 := numT_le r (by omega)
  simp only [impl_readerText.f, rText]
  rw [itoa_is m (by omega), Option.bind_some, if_pos (by omega), itoa_is d (by omega), Option.bind_some, if_pos (by rw [ByteArray.size_append, sz43]; omega)]
  by_cases c : r = 0
  · rw [if_pos c, if_neg (by omega)]
  · rw [if_neg c, if_pos (by omega), itoa_is r (by omega), Option.bind_some, if_pos (by omega), if_pos (by rw [ByteArray.size_append, ByteArray.size_append, ByteArray.size_append, sz43, sz47]; omega)]

/-! ### Texts as lists of bytes: splits, cuts, numbers read. -/
def mkT (l : List UInt8) : ByteArray := ⟨l.toArray⟩
theorem mkT_list (l : List UInt8) : (mkT l).data.toList = l := by simp [mkT]
theorem mkT_size (l : List UInt8) : (mkT l).size = l.length := by simp [mkT, ByteArray.size]
theorem mkT_of (s : ByteArray) : mkT s.data.toList = s := ba_ext (mkT_list _)
theorem size_len (s : ByteArray) : s.size = s.data.toList.length := by
  rw [Array.length_toList]
  rfl
theorem bt_nat (s : ByteArray) (i : Nat) (h : i < s.size) : bt s (i : Int) = ((s.data.toList[i]'(by rw [← size_len]; exact h)).toNat : Int) := by
  rw [← bt_at s (i : Int) (by simpa using h)]
  simp only [Int.toNat_natCast]
  rfl
theorem ext_list (s : ByteArray) (a b : Nat) : s.extract a b = mkT ((s.data.toList.drop a).take (b - a)) := by
  apply ba_ext
  rw [mkT_list]
  have := Go.Proofs.ext_win s a b
  rw [ByteArray.toList_eq] at this
  exact this
theorem ba_eq (x y : ByteArray) : x.toList = y.toList ↔ x = y := by
  rw [ByteArray.toList_eq, ByteArray.toList_eq]
  exact ⟨fun h => ba_ext h, fun h => by rw [h]⟩
/-- A text, split at each byte b. -/
def spL (b : Nat) : List UInt8 → List UInt8 → List (List UInt8)
  | acc, [] => [acc]
  | acc, c :: t => if c.toNat = b then acc :: spL b [] t else spL b (acc ++ [c]) t
theorem spL_pos (b : Nat) : ∀ (l acc : List UInt8), 1 ≤ (spL b acc l).length
  | [], _ => by simp [spL]
  | c :: t, acc => by
    rw [spL]
    split
    · simp
    · exact spL_pos b t _
theorem spL_le (b : Nat) : ∀ (l acc p : List UInt8), p ∈ spL b acc l → p.length ≤ acc.length + l.length
  | [], acc, p, h => by
    rw [spL, List.mem_singleton] at h
    rw [h]
    exact Nat.le_add_right _ _
  | c :: t, acc, p, h => by
    rw [spL] at h
    rw [List.length_cons]
    split at h
    · rcases List.mem_cons.1 h with h | h
      · rw [h]; omega
      · have := spL_le b t [] p h
        simp only [List.length_nil] at this
        omega
    · have := spL_le b t _ p h
      rw [List.length_append, List.length_singleton] at this
      omega
theorem txt_app (x y : ByteArray) : (x ++ y).data.toList = x.data.toList ++ y.data.toList := by
  show (x.append y).data.toList = _
  simp [ByteArray.append, ByteArray.copySlice, ByteArray.size]
theorem spL_none (b : Nat) : ∀ (l acc : List UInt8), (∀ c ∈ l, c.toNat ≠ b) → spL b acc l = [acc ++ l]
  | [], acc, _ => by simp [spL]
  | c :: t, acc, h => by
    rw [spL, if_neg (h c (List.mem_cons_self)), spL_none b t _ (fun x hx => h x (List.mem_cons_of_mem _ hx))]
    simp
theorem spL_hit (b : Nat) (c : UInt8) (hc : c.toNat = b) (y : List UInt8) : ∀ (x acc : List UInt8), (∀ c ∈ x, c.toNat ≠ b) → spL b acc (x ++ c :: y) = (acc ++ x) :: spL b [] y
  | [], acc, _ => by simp [spL, hc]
  | d :: t, acc, h => by
    rw [List.cons_append, spL, if_neg (h d (List.mem_cons_self)), spL_hit b c hc y t _ (fun x hx => h x (List.mem_cons_of_mem _ hx))]
    simp
theorem l1Split_ev (s : ByteArray) (b : Nat) (hs : s.size ≤ 1048576) : Ev (fun k => spec_l1Split.f k s (b : Int)) ((spL b [] s.data.toList).map mkT) := by
  have key : ∀ (d i a : Nat) (out : List ByteArray), i + d = s.size → a ≤ i → out.length ≤ a → Ev (fun k => spec_l1Split.l0 k s (b : Int) out (a : Int) (i : Int)) (out ++ (spL b ((s.data.toList.drop a).take (i - a)) (s.data.toList.drop i)).map mkT) := by
    intro d
    induction d with
    | zero =>
      intro i a out h ha ho
      refine ev_succ ?_
      simp only [spec_l1Split.l0]
      refine ev_else (by omega) ?_
      refine ev_if (by omega) ?_
      refine ev_if (by omega) ?_
      refine ev_if (by omega) ?_
      refine ev_ret ?_
      have hl := size_len s
      rw [List.drop_eq_nil_of_le (show s.data.toList.length ≤ i by omega), spL, Int.toNat_natCast, ext_list]
      rw [show s.size - a = i - a by omega]
      rfl
    | succ d ih =>
      intro i a out h ha ho
      have hi : i < s.size := by omega
      have hl := size_len s
      have hi' : i < s.data.toList.length := by omega
      refine ev_succ ?_
      simp only [spec_l1Split.l0]
      refine ev_if (by omega) ?_
      refine ev_if (by omega) ?_
      simp only [bt_nat s i hi, w64s (show i < 4611686018427387904 by omega)]
      rw [List.drop_eq_getElem_cons hi', spL]
      by_cases c : (s.data.toList[i]).toNat = b
      · refine ev_if (by omega) ?_
        refine ev_if (by omega) ?_
        refine ev_if (by omega) ?_
        refine ev_if (by omega) ?_
        refine ev_if (by omega) ?_
        rw [if_pos c, Int.toNat_natCast, Int.toNat_natCast, ext_list]
        have := ih (i + 1) (i + 1) (out ++ [mkT ((s.data.toList.drop a).take (i - a))]) (by omega) (by omega) (by rw [List.length_append]; simp; omega)
        rw [Nat.sub_self, List.take_zero] at this
        rw [List.map_cons]
        rw [List.append_assoc] at this
        exact this
      · refine ev_else (by omega) ?_
        rw [if_neg c]
        have := ih (i + 1) a out (by omega) (by omega) ho
        have e : (s.data.toList.drop a).take (i + 1 - a) = (s.data.toList.drop a).take (i - a) ++ [s.data.toList[i]] := by
          rw [show i + 1 - a = (i - a) + 1 by omega, List.take_add_one, List.getElem?_drop, show a + (i - a) = i by omega, List.getElem?_eq_getElem hi']
          rfl
        rw [e] at this
        exact this
  have := key s.size 0 0 [] (by omega) (by omega) (by simp)
  simp only [List.nil_append, List.drop_zero, Nat.sub_self, List.take_zero] at this
  exact this
/-- A digit. -/
def isD (c : UInt8) : Prop := 48 ≤ c.toNat ∧ c.toNat ≤ 57
/-- What digits spell, behind a number. -/
def dval (a : Nat) (l : List UInt8) : Nat := l.foldl (fun a c => 10 * a + (c.toNat - 48)) a
theorem dval_nil (a : Nat) : dval a [] = a := rfl
theorem dval_cons (a : Nat) (c : UInt8) (t : List UInt8) : dval a (c :: t) = dval (10 * a + (c.toNat - 48)) t := by simp only [dval, List.foldl_cons]
theorem dval_ge : ∀ (l : List UInt8) (a : Nat), a ≤ dval a l
  | [], a => Nat.le_refl a
  | c :: t, a => by
    rw [dval_cons]
    have := dval_ge t (10 * a + (c.toNat - 48))
    omega
theorem dval_app (x y : List UInt8) (a : Nat) : dval a (x ++ y) = dval (dval a x) y := List.foldl_append
theorem isD_of (d : Nat) (h : d < 10) : isD (UInt8.ofNat (48 + d)) ∧ (UInt8.ofNat (48 + d)).toNat = 48 + d := by
  have e : (UInt8.ofNat (48 + d)).toNat = 48 + d := by
    rw [UInt8.toNat_ofNat']
    omega
  exact ⟨by unfold isD; omega, e⟩
theorem dec_isD : ∀ (n : Nat), ∀ c ∈ Go.Lib.decDigits n, isD c := by
  intro n
  induction n using Nat.strongRecOn with
  | _ n ih =>
    intro c hc
    by_cases h : n < 10
    · rw [Go.Lib.decDigits, dif_pos h, List.mem_singleton] at hc
      rw [hc]
      exact (isD_of n h).1
    · rw [dec_big h, List.mem_append, List.mem_singleton] at hc
      rcases hc with hc | hc
      · exact ih (n / 10) (by omega) c hc
      · rw [hc]
        exact (isD_of (n % 10) (by omega)).1
theorem dec_val : ∀ (n : Nat), dval 0 (Go.Lib.decDigits n) = n := by
  intro n
  induction n using Nat.strongRecOn with
  | _ n ih =>
    by_cases h : n < 10
    · rw [Go.Lib.decDigits, dif_pos h, dval_cons, dval_nil, (isD_of n h).2]
      omega
    · rw [dec_big h, dval_app, ih (n / 10) (by omega), dval_cons, dval_nil, (isD_of (n % 10) (by omega)).2]
      omega
theorem dec_ne (n : Nat) : Go.Lib.decDigits n ≠ [] := by
  by_cases h : n < 10
  · rw [Go.Lib.decDigits, dif_pos h]; simp
  · rw [dec_big h]; simp
theorem dec_head : ∀ (n : Nat), 1 ≤ n → ∀ c, (Go.Lib.decDigits n).head? = some c → c.toNat ≠ 48 := by
  intro n
  induction n using Nat.strongRecOn with
  | _ n ih =>
    intro h1 c hc
    by_cases h : n < 10
    · rw [Go.Lib.decDigits, dif_pos h, List.head?_cons] at hc
      obtain rfl := Option.some.inj hc
      rw [(isD_of n h).2]
      omega
    · rw [dec_big h] at hc
      refine ih (n / 10) (by omega) (by omega) c ?_
      cases e : Go.Lib.decDigits (n / 10) with
      | nil => exact absurd e (dec_ne _)
      | cons a t =>
        rw [e] at hc
        exact hc
/-- A number read, digit by digit. -/
def rdg : List UInt8 → Nat → Int
  | [], acc => (acc : Int)
  | c :: t, acc => if c.toNat < 48 then -1 else if c.toNat > 57 then -1 else rdg t (10 * acc + (c.toNat - 48))
theorem rdg_nil (a : Nat) : rdg [] a = (a : Int) := rfl
theorem rdg_cons (c : UInt8) (t : List UInt8) (a : Nat) : rdg (c :: t) a = if c.toNat < 48 then -1 else if c.toNat > 57 then -1 else rdg t (10 * a + (c.toNat - 48)) := rfl
theorem rdg_dec : ∀ (l : List UInt8) (a : Nat), (∀ c ∈ l, isD c) → rdg l a = (dval a l : Int)
  | [], a, _ => rfl
  | c :: t, a, h => by
    have hc := h c (List.mem_cons_self)
    unfold isD at hc
    rw [rdg_cons, if_neg (by omega), if_neg (by omega), rdg_dec t _ (fun x hx => h x (List.mem_cons_of_mem _ hx)), dval_cons]
def l1R (l : List UInt8) : Int := if 1 ≤ l.length ∧ l.length ≤ 6 then (if (l.head?.map (·.toNat)) = some 48 ∧ 1 < l.length then -1 else rdg l 0) else -1
theorem l1R_dec (n : Nat) (h : n ≤ 999999) : l1R (Go.Lib.decDigits n) = (n : Int) := by
  have h1 := dec_len 6 n (by omega) (by omega)
  have h2 := List.length_pos_iff.2 (dec_ne n)
  unfold l1R
  rw [if_pos ⟨by omega, h1⟩, if_neg ?_, rdg_dec _ _ (dec_isD n), dec_val]
  rintro ⟨e1, e2⟩
  by_cases z : n < 10
  · rw [Go.Lib.decDigits, dif_pos z] at e2
    simp at e2
  · cases e : (Go.Lib.decDigits n).head? with
    | none => rw [e] at e1; simp at e1
    | some c =>
      rw [e] at e1
      exact dec_head n (by omega) c e (by simpa using e1)
theorem l1Read_ev (s : ByteArray) : Ev (fun k => spec_l1Read.f k s) (l1R s.data.toList) := by
  have hl := size_len s
  have key : ∀ (d i a : Nat), i + d = s.size → s.size ≤ 6 → a < 10 ^ i → Ev (fun k => spec_l1Read.l0 k s (a : Int) (i : Int)) (rdg (s.data.toList.drop i) a) := by
    intro d
    induction d with
    | zero =>
      intro i a h h6 ha
      refine ev_succ ?_
      simp only [spec_l1Read.l0]
      refine ev_else (by omega) ?_
      rw [List.drop_eq_nil_of_le (by omega), rdg_nil]
      exact Ev.now _
    | succ d ih =>
      intro i a h h6 ha
      have hi : i < s.size := by omega
      have hi' : i < s.data.toList.length := by omega
      have hp : 10 ^ i ≤ 10 ^ 6 := Nat.pow_le_pow_right (by omega) (by omega)
      refine ev_succ ?_
      simp only [spec_l1Read.l0]
      refine ev_if (by omega) ?_
      refine ev_if (by omega) ?_
      simp only [bt_nat s i hi, w64s (show i < 4611686018427387904 by omega)]
      rw [List.drop_eq_getElem_cons hi', rdg_cons]
      generalize (s.data.toList[i]).toNat = c
      by_cases c1 : c < 48
      · refine ev_if (by omega) ?_
        rw [if_pos c1]
        exact Ev.now _
      · refine ev_else (by omega) ?_
        rw [if_neg c1]
        by_cases c2 : c > 57
        · refine ev_if (by omega) ?_
          rw [if_pos c2]
          exact Ev.now _
        · refine ev_else (by omega) ?_
          rw [if_neg c2]
          have e : wrap64 (wrap64 (10 * (a : Int)) + ((c : Int) - 48) % 256) = ((10 * a + (c - 48) : Nat) : Int) := by
            rw [w64 (x := 10 * (a : Int)) (by omega) (by omega), w64 (by omega) (by omega)]
            omega
          rw [e]
          refine ih (i + 1) _ (by omega) h6 ?_
          rw [Nat.pow_succ]
          omega
  simp only [spec_l1Read.f, l1R]
  refine ev_some (spec_l1In_eq _ _ _) ?_
  by_cases c : 1 ≤ s.data.toList.length ∧ s.data.toList.length ≤ 6
  · rw [if_pos c]
    refine ev_if (by rw [decide_eq_true_eq]; omega) ?_
    refine ev_if (by omega) ?_
    have h0 : 0 < s.size := by omega
    have e0 : s.data.toList.head? = some (s.data.toList[0]'(by omega)) := by rw [List.head?_eq_getElem?, List.getElem?_eq_getElem]
    have hb : bt s 0 = ((s.data.toList[0]'(by omega)).toNat : Int) := bt_nat s 0 h0
    simp only [hb]
    rw [e0, Option.map_some]
    by_cases z : (s.data.toList[0]'(by omega)).toNat = 48
    · refine ev_if (by omega) ?_
      refine ev_succ ?_
      simp only [spec_l1Read.j0]
      by_cases y : 1 < s.data.toList.length
      · refine ev_if (by rw [decide_eq_true_eq]; omega) ?_
        rw [if_pos ⟨by rw [z], y⟩]
        exact Ev.now _
      · refine ev_else (by rw [decide_eq_true_eq]; omega) ?_
        rw [if_neg (fun h => y h.2)]
        exact key s.size 0 0 (by omega) (by omega) (by omega)
    · refine ev_else (by omega) ?_
      refine ev_succ ?_
      simp only [spec_l1Read.j0]
      refine ev_else (by simp) ?_
      rw [if_neg (fun h => z (Option.some.inj h.1))]
      exact key s.size 0 0 (by omega) (by omega) (by omega)
  · rw [if_neg c]
    refine ev_else (by rw [decide_eq_true_eq]; omega) ?_
    refine ev_succ ?_
    simp only [spec_l1Read.j0]
    refine ev_if trivial ?_
    exact Ev.now _
/-! ### strings.Cut and strconv.Atoi at these texts. -/
theorem index_none (c : UInt8) : ∀ (l : List UInt8), (∀ x ∈ l, x.toNat ≠ c.toNat) → Go.Lib.index l [c] = -1
  | [], _ => by simp [Go.Lib.index]
  | b :: l, h => by
    have hb : ¬ (c == b) = true := by
      intro e
      have := h b (List.mem_cons_self)
      rw [beq_iff_eq] at e
      exact this (by rw [e])
    rw [Go.Lib.index, index_none c l (fun x hx => h x (List.mem_cons_of_mem _ hx))]
    simp [List.isPrefixOf, hb]
theorem index_hit (c : UInt8) (y : List UInt8) : ∀ (x : List UInt8), (∀ d ∈ x, d.toNat ≠ c.toNat) → Go.Lib.index (x ++ c :: y) [c] = (x.length : Int)
  | [], _ => by simp [Go.Lib.index, List.isPrefixOf]
  | b :: l, h => by
    have hb : ¬ (c == b) = true := by
      intro e
      have := h b (List.mem_cons_self)
      rw [beq_iff_eq] at e
      exact this (by rw [e])
    rw [List.cons_append, Go.Lib.index, index_hit c y l (fun x hx => h x (List.mem_cons_of_mem _ hx))]
    have hn : ¬ ((l.length : Int) == -1) = true := by
      intro e
      rw [beq_iff_eq] at e
      omega
    have hp : ([c].isPrefixOf (b :: (l ++ c :: y))) = false := by simpa [List.isPrefixOf] using hb
    rw [hp]
    simp only [Bool.false_eq_true, if_false, hn, List.length_cons]
    rfl
theorem cut_none (c : UInt8) (l : List UInt8) (h : ∀ x ∈ l, x.toNat ≠ c.toNat) : Go.Lib.cut l [c] = (l, [], false) := by
  unfold Go.Lib.cut
  rw [index_none c l h, if_neg (by omega)]
theorem cut_hit (c : UInt8) (x y : List UInt8) (h : ∀ d ∈ x, d.toNat ≠ c.toNat) : Go.Lib.cut (x ++ c :: y) [c] = (x, y, true) := by
  unfold Go.Lib.cut
  rw [index_hit c y x h, if_pos (by omega), Int.toNat_natCast]
  simp
theorem cut_len (s sep : List UInt8) : (Go.Lib.cut s sep).1.length ≤ s.length ∧ (Go.Lib.cut s sep).2.1.length ≤ s.length := by
  unfold Go.Lib.cut
  split
  · exact ⟨by rw [List.length_take]; omega, by rw [List.length_drop]; omega⟩
  · exact ⟨Nat.le_refl _, by simp⟩
theorem parse10 : ∀ (l : List UInt8) (a : Nat), (∀ c ∈ l, isD c) → dval a l ≤ 10000000 → Go.Lib.parseUint10 a l = .ok (dval a l)
  | [], a, _, _ => rfl
  | c :: t, a, h, hv => by
    have hc := h c (List.mem_cons_self)
    unfold isD at hc
    rw [dval_cons] at hv ⊢
    have := dval_ge t (10 * a + (c.toNat - 48))
    rw [Go.Lib.parseUint10, if_pos hc, if_neg (by omega), if_neg (by omega), Nat.mul_comm a 10]
    exact parse10 t _ (fun x hx => h x (List.mem_cons_of_mem _ hx)) hv
theorem atoi_dec (n : Nat) (h : n ≤ 1000000) : Go.Lib.atoiAll (Go.Lib.decDigits n) = .ok (n : Int) := by
  have hd := dec_isD n
  have hv := dec_val n
  cases e : Go.Lib.decDigits n with
  | nil => exact absurd e (dec_ne n)
  | cons c t =>
    rw [e] at hd hv
    have hc := hd c (List.mem_cons_self)
    unfold isD at hc
    rw [Go.Lib.atoiAll_plain c t (by omega) (by omega)]
    unfold Go.Lib.parseMag
    rw [if_neg (by simp), parse10 (c :: t) 0 hd (by omega), hv]
    unfold Go.Lib.signless
    simp only
    rw [if_neg (by omega)]
theorem atoi_f (n : Nat) (h : n ≤ 1000000) (s : ByteArray) (hs : s.data.toList = Go.Lib.decDigits n) : strconv_Atoi.f s = some ((n : Int), none) := by
  have hl := dec_len 7 n (by omega) (by omega)
  unfold strconv_Atoi.f strconv_Atoi.v strconv_Atoi.e
  rw [if_pos (by rw [size_len, hs]; omega), hs, atoi_dec n h]

theorem impl_IsReader_eq (m d r : Int) : impl_IsReader.f m d r = some (rOk m d r) := by
  simp only [impl_IsReader.f, impl_within_eq, Option.bind_some, rOk]
  by_cases a : 0 ≤ m ∧ m ≤ 2000
  · by_cases b : 1 ≤ d ∧ d ≤ 200
    · by_cases c : r = 0
      · simp [a, b, c]
      · simp [a, b, c]
    · simp [a, b]
  · simp [a]
/-- A reader that the text s has. -/
def rdHas (s : ByteArray) (m d r : Int) : Bool := rOk m d r && decide (rText m.toNat d.toNat r.toNat = s)
/-- What the reference reads. -/
def rdP (s : ByteArray) : Int × Int × Int × Bool :=
  let P := spL 43 [] s.data.toList
  if 11 < s.size ∨ P.length ≠ 2 then (0, 0, 0, false) else
  let N := spL 47 [] (P.getD 1 [])
  let m := l1R (P.getD 0 [])
  let d := l1R (N.getD 0 [])
  let r := if N.length = 2 then l1R (N.getD 1 []) else 0
  (m, d, r, decide (N.length < 3) && rdHas s m d r)
theorem rdOf_map (l : List (List UInt8)) (i : Nat) (h : i < l.length) : rdOf ByteArray.empty (l.map mkT) (i : Int) = mkT (l.getD i []) := by
  unfold rdOf
  rw [Int.toNat_natCast, List.getD_eq_getElem?_getD, List.getD_eq_getElem?_getD, List.getElem?_map, List.getElem?_eq_getElem h]
  rfl
theorem fin_ev (s : ByteArray) (m d r : Int) : Ev (fun k => (spec_rdGood.f m d r).bind fun t => if t = true then ((spec_rdText.f k m d r).bind fun x => some (m, d, r, x.toList == s.toList)) else some (m, d, r, false)) (m, d, r, rdHas s m d r) := by
  refine ev_some (spec_rdGood_eq m d r) ?_
  by_cases c : rOk m d r = true
  · refine ev_if c ?_
    obtain ⟨h1, h2, h3⟩ := rOk_is c
    obtain ⟨m, rfl⟩ := Int.eq_ofNat_of_zero_le h1.1
    obtain ⟨d, rfl⟩ := Int.eq_ofNat_of_zero_le (show 0 ≤ d by omega)
    obtain ⟨r, rfl⟩ := Int.eq_ofNat_of_zero_le (show 0 ≤ r by omega)
    refine Ev.bind (rdText_ev m d r (by omega) (by omega) (by omega)) (ev_ret ?_)
    unfold rdHas
    rw [c, Int.toNat_natCast, Int.toNat_natCast, Int.toNat_natCast, Bool.true_and]
    congr 3
    rw [Bool.eq_iff_iff, beq_iff_eq, decide_eq_true_eq]
    exact ba_eq _ _
  · refine ev_else c (ev_ret ?_)
    unfold rdHas
    rw [Bool.not_eq_true] at c
    rw [c, Bool.false_and]
theorem rdParse_ev (s : ByteArray) (hs : s.size ≤ 1048576) : Ev (fun k => spec_rdParse.f k s) (rdP s) := by
  simp only [spec_rdParse.f]
  refine Ev.bind (l1Split_ev s 43 hs) ?_
  unfold rdP
  dsimp only
  generalize hP : spL 43 [] s.data.toList = P
  by_cases c0 : 11 < s.size
  · rw [if_pos (Or.inl c0)]
    refine ev_if (by omega) ?_
    refine ev_succ ?_
    simp only [spec_rdParse.j0, if_true]
    exact Ev.now _
  refine ev_else (by omega) ?_
  refine ev_succ ?_
  simp only [spec_rdParse.j0]
  by_cases c1 : P.length = 2
  · rw [if_neg (by omega)]
    have hl : (P.map mkT).length = 2 := by rw [List.length_map, c1]
    refine ev_else (by simp [c1]) ?_
    refine ev_if (by omega) ?_
    rw [show (1 : Int) = ((1 : Nat) : Int) from rfl, rdOf_map P 1 (by omega)]
    have hz : (mkT (P.getD 1 [])).size ≤ 1048576 := by
      rw [mkT_size]
      have hm : P.getD 1 [] ∈ P := by
        rw [List.getD_eq_getElem?_getD, List.getElem?_eq_getElem (by omega)]
        exact List.getElem_mem _
      have := spL_le 43 s.data.toList [] _ (by rw [hP]; exact hm)
      rw [← size_len] at this
      simp only [List.length_nil, Nat.zero_add] at this
      omega
    refine Ev.bind (l1Split_ev _ 47 hz) ?_
    rw [mkT_list]
    generalize hN : spL 47 [] (P.getD 1 []) = N
    have hN1 : 1 ≤ N.length := by rw [← hN]; exact spL_pos _ _ _
    have hNl : (N.map mkT).length = N.length := List.length_map _
    refine ev_if (by omega) ?_
    rw [show (0 : Int) = ((0 : Nat) : Int) from rfl, rdOf_map P 0 (by omega)]
    refine Ev.bind (l1Read_ev _) ?_
    rw [mkT_list]
    refine ev_if (by omega) ?_
    rw [rdOf_map N 0 (by omega)]
    refine Ev.bind (l1Read_ev _) ?_
    rw [mkT_list]
    by_cases c2 : N.length = 2
    · refine ev_if (by omega) ?_
      refine ev_if (by omega) ?_
      rw [rdOf_map N 1 (by omega)]
      refine Ev.bind (l1Read_ev _) ?_
      rw [mkT_list]
      refine ev_if (by omega) ?_
      rw [if_pos c2, c2]
      exact fin_ev s _ _ _
    · refine ev_else (by omega) ?_
      rw [if_neg c2]
      by_cases c3 : N.length < 3
      · refine ev_if (by omega) ?_
        rw [decide_eq_true c3, Bool.true_and]
        exact fin_ev s _ _ _
      · refine ev_else (by omega) ?_
        rw [decide_eq_false c3, Bool.false_and]
        exact Ev.now _
  · rw [if_pos (Or.inr c1)]
    refine ev_if (by simp only [List.length_map, bne_iff_ne]; omega) ?_
    exact Ev.now _
theorem cutF (s : ByteArray) (c : UInt8) (h : s.size ≤ 1048576) : strings_Cut.f s (⟨#[c]⟩ : ByteArray) = some (mkT (Go.Lib.cut s.data.toList [c]).1, mkT (Go.Lib.cut s.data.toList [c]).2.1, (Go.Lib.cut s.data.toList [c]).2.2) := by
  unfold strings_Cut.f
  rw [if_pos (by omega)]
  rfl
/-- What the program reads. -/
def imP (s : ByteArray) : Int × Int × Int × Bool :=
  let a := Go.Lib.cut s.data.toList [43]
  let b := Go.Lib.cut a.2.1 [47]
  let r := if b.2.1 = [] then [48] else b.2.1
  if ((strconv_Atoi.e (mkT a.1)).isNone = true ∧ (strconv_Atoi.e (mkT b.1)).isNone = true ∧ (strconv_Atoi.e (mkT r)).isNone = true) ∧ rdHas s (strconv_Atoi.v (mkT a.1)) (strconv_Atoi.v (mkT b.1)) (strconv_Atoi.v (mkT r)) = true then (strconv_Atoi.v (mkT a.1), strconv_Atoi.v (mkT b.1), strconv_Atoi.v (mkT r), true) else (0, 0, 0, false)
theorem atoiF (s : ByteArray) (h : s.size ≤ 1048576) : strconv_Atoi.f s = some (strconv_Atoi.v s, strconv_Atoi.e s) := by
  unfold strconv_Atoi.f
  rw [if_pos (by omega)]
theorem parse_fin (s : ByteArray) (p q t : ByteArray) (h1 : p.size ≤ 1048576) (h2 : q.size ≤ 1048576) (h3 : t.size ≤ 1048576) : Ev (fun k => impl_ParseReader.j0 k s p q t) (if ((strconv_Atoi.e p).isNone = true ∧ (strconv_Atoi.e q).isNone = true ∧ (strconv_Atoi.e t).isNone = true) ∧ rdHas s (strconv_Atoi.v p) (strconv_Atoi.v q) (strconv_Atoi.v t) = true then (strconv_Atoi.v p, strconv_Atoi.v q, strconv_Atoi.v t, true) else (0, 0, 0, false)) := by
  refine ev_succ ?_
  simp only [impl_ParseReader.j0]
  refine ev_some (atoiF p h1) ?_
  refine ev_some (atoiF q h2) ?_
  refine ev_some (atoiF t h3) ?_
  dsimp only
  generalize strconv_Atoi.e p = e1
  generalize strconv_Atoi.e q = e2
  generalize strconv_Atoi.e t = e3
  generalize strconv_Atoi.v p = m
  generalize strconv_Atoi.v q = d
  generalize strconv_Atoi.v t = r
  by_cases c1 : e1.isNone = true
  rotate_left
  · refine ev_else c1 (ev_ret ?_)
    rw [if_neg (fun h => c1 h.1.1)]
  refine ev_if c1 ?_
  by_cases c2 : e2.isNone = true
  rotate_left
  · refine ev_else c2 (ev_ret ?_)
    rw [if_neg (fun h => c2 h.1.2.1)]
  refine ev_if c2 ?_
  by_cases c3 : e3.isNone = true
  rotate_left
  · refine ev_else c3 (ev_ret ?_)
    rw [if_neg (fun h => c3 h.1.2.2)]
  refine ev_if c3 ?_
  refine ev_some (impl_IsReader_eq m d r) ?_
  by_cases c : rOk m d r = true
  rotate_left
  · refine ev_else c (ev_ret ?_)
    rw [if_neg ?_]
    rintro ⟨_, h⟩
    unfold rdHas at h
    rw [Bool.and_eq_true] at h
    exact c h.1
  refine ev_if c ?_
  obtain ⟨k1, k2, k3⟩ := rOk_is c
  obtain ⟨m, rfl⟩ := Int.eq_ofNat_of_zero_le k1.1
  obtain ⟨d, rfl⟩ := Int.eq_ofNat_of_zero_le (show 0 ≤ d by omega)
  obtain ⟨r, rfl⟩ := Int.eq_ofNat_of_zero_le (show 0 ≤ r by omega)
  refine ev_some (readerText_is m d r (by omega) (by omega) (by omega)) ?_
  have hh : rdHas s (m : Int) (d : Int) (r : Int) = decide (rText m d r = s) := by
    unfold rdHas
    rw [c, Int.toNat_natCast, Int.toNat_natCast, Int.toNat_natCast, Bool.true_and]
  rw [hh]
  by_cases z : rText m d r = s
  · refine ev_if ((ba_eq _ _).2 z) (ev_ret ?_)
    rw [if_pos ⟨⟨c1, c2, c3⟩, decide_eq_true z⟩]
  · refine ev_else (fun h => z ((ba_eq _ _).1 h)) (ev_ret ?_)
    rw [if_neg (fun h => z (of_decide_eq_true h.2))]
theorem implParse_ev (s : ByteArray) (hs : s.size ≤ 1048576) : Ev (fun k => impl_ParseReader.f k s) (imP s) := by
  have hl := size_len s
  obtain ⟨a1, a2⟩ := cut_len s.data.toList [43]
  obtain ⟨b1, b2⟩ := cut_len (Go.Lib.cut s.data.toList [43]).2.1 [47]
  simp only [impl_ParseReader.f]
  refine ev_some (cutF s 43 hs) ?_
  refine ev_some (cutF _ 47 (by rw [mkT_size]; omega)) ?_
  dsimp only
  rw [mkT_list]
  unfold imP
  dsimp only
  by_cases c : (Go.Lib.cut (Go.Lib.cut s.data.toList [43]).2.1 [47]).2.1 = []
  · refine ev_if (by rw [ByteArray.toList_eq, mkT_list]; exact c) ?_
    rw [if_pos c]
    exact parse_fin s _ _ (mkT [48]) (by rw [mkT_size]; omega) (by rw [mkT_size]; omega) (by rw [mkT_size]; simp)
  · refine ev_else (by rw [ByteArray.toList_eq, mkT_list]; exact c) ?_
    rw [if_neg c]
    exact parse_fin s _ _ _ (by rw [mkT_size]; omega) (by rw [mkT_size]; omega) (by rw [mkT_size]; omega)
/-! ### At a reader's text. -/
theorem rText_list (m d r : Nat) : (rText m d r).data.toList = if r = 0 then Go.Lib.decDigits m ++ 43 :: Go.Lib.decDigits d else Go.Lib.decDigits m ++ 43 :: (Go.Lib.decDigits d ++ 47 :: Go.Lib.decDigits r) := by
  unfold rText
  by_cases c : r = 0
  · rw [if_pos c, if_pos c, txt_app, txt_app]
    simp [numT]
  · rw [if_neg c, if_neg c, txt_app, txt_app, txt_app, txt_app]
    simp [numT]
theorem dig_ne (n : Nat) (b : Nat) (hb : b < 48) : ∀ c ∈ Go.Lib.decDigits n, c.toNat ≠ b := by
  intro c hc
  have := dec_isD n c hc
  unfold isD at this
  omega
theorem rdP_hit (m d r : Nat) (h : rOk m d r = true) : rdP (rText m d r) = ((m : Int), (d : Int), (r : Int), true) := by
  obtain ⟨h1, h2, h3⟩ := rOk_is h
  have l1 := dec_len 4 m (by omega) (by omega)
  have l2 := dec_len 3 d (by omega) (by omega)
  have l3 := dec_len 2 r (by omega) (by omega)
  have hz := size_len (rText m d r)
  have hh : rdHas (rText m d r) m d r = true := by
    unfold rdHas
    rw [h]
    simp
  unfold rdP
  rw [rText_list] at hz ⊢
  by_cases c : r = 0
  · rw [if_pos c] at hz ⊢
    rw [List.length_append, List.length_cons] at hz
    rw [spL_hit 43 43 rfl _ _ [] (dig_ne m 43 (by omega)), spL_none 43 _ [] (dig_ne d 43 (by omega))]
    dsimp only
    rw [if_neg (by simp; omega)]
    simp only [List.nil_append, List.getD_cons_succ, List.getD_cons_zero]
    rw [spL_none 47 _ [] (dig_ne d 47 (by omega))]
    simp only [List.nil_append, List.getD_cons_succ, List.getD_cons_zero, List.length_singleton]
    rw [l1R_dec m (by omega), l1R_dec d (by omega), if_neg (by omega)]
    subst c
    rw [show ((0 : Nat) : Int) = 0 from rfl] at hh
    rw [hh]
    rfl
  · rw [if_neg c] at hz ⊢
    rw [List.length_append, List.length_cons, List.length_append, List.length_cons] at hz
    rw [spL_hit 43 43 rfl _ _ [] (dig_ne m 43 (by omega)), spL_none 43 (Go.Lib.decDigits d ++ 47 :: Go.Lib.decDigits r) [] ?side]
    case side =>
      intro x hx
      rw [List.mem_append, List.mem_cons] at hx
      rcases hx with hx | hx | hx
      · exact dig_ne d 43 (by omega) x hx
      · rw [hx]; decide
      · exact dig_ne r 43 (by omega) x hx
    dsimp only
    rw [if_neg (by simp; omega)]
    simp only [List.nil_append, List.getD_cons_succ, List.getD_cons_zero]
    rw [spL_hit 47 47 rfl _ _ [] (dig_ne d 47 (by omega)), spL_none 47 _ [] (dig_ne r 47 (by omega))]
    simp only [List.nil_append, List.getD_cons_succ, List.getD_cons_zero, List.length_cons, List.length_nil]
    rw [l1R_dec m (by omega), l1R_dec d (by omega), l1R_dec r (by omega)]
    simp only [if_true]
    rw [hh]
    rfl
theorem atoi_is (n : Nat) (h : n ≤ 1000000) : strconv_Atoi.v (mkT (Go.Lib.decDigits n)) = (n : Int) ∧ strconv_Atoi.e (mkT (Go.Lib.decDigits n)) = none := by
  unfold strconv_Atoi.v strconv_Atoi.e
  rw [mkT_list, atoi_dec n h]
  exact ⟨rfl, rfl⟩
theorem imP_hit (m d r : Nat) (h : rOk m d r = true) : imP (rText m d r) = ((m : Int), (d : Int), (r : Int), true) := by
  obtain ⟨h1, h2, h3⟩ := rOk_is h
  have hh : rdHas (rText m d r) m d r = true := by
    unfold rdHas
    rw [h]
    simp
  obtain ⟨a1, a2⟩ := atoi_is m (by omega)
  obtain ⟨b1, b2⟩ := atoi_is d (by omega)
  obtain ⟨c1, c2⟩ := atoi_is r (by omega)
  unfold imP
  rw [rText_list]
  by_cases c : r = 0
  · rw [if_pos c, cut_hit 43 _ _ (dig_ne m 43 (by omega))]
    dsimp only
    rw [cut_none 47 _ (dig_ne d 47 (by omega))]
    dsimp only
    rw [if_pos rfl, a1, a2, b1, b2]
    have e : Go.Lib.decDigits r = [48] := by
      subst c
      rw [Go.Lib.decDigits, dif_pos (by omega)]
      rfl
    rw [← e, c1, c2, hh]
    rfl
  · rw [if_neg c, cut_hit 43 _ _ (dig_ne m 43 (by omega))]
    dsimp only
    rw [cut_hit 47 _ _ (dig_ne d 47 (by omega))]
    dsimp only
    rw [if_neg (dec_ne r), a1, a2, b1, b2, c1, c2, hh]
    rfl
theorem has_of {s : ByteArray} {m d r : Int} (h : rdHas s m d r = true) : ∃ a b c : Nat, rOk a b c = true ∧ s = rText a b c := by
  unfold rdHas at h
  rw [Bool.and_eq_true, decide_eq_true_eq] at h
  obtain ⟨h1, h2⟩ := h
  obtain ⟨k1, k2, k3⟩ := rOk_is h1
  obtain ⟨m, rfl⟩ := Int.eq_ofNat_of_zero_le k1.1
  obtain ⟨d, rfl⟩ := Int.eq_ofNat_of_zero_le (show 0 ≤ d by omega)
  obtain ⟨r, rfl⟩ := Int.eq_ofNat_of_zero_le (show 0 ≤ r by omega)
  exact ⟨m, d, r, h1, h2.symm⟩
theorem same (s : ByteArray) (hs : s.size ≤ 1048576) : ∃ e : Int × Int × Int × Bool, Ev (fun k => spec_ParseReader.f k s) e ∧ Ev (fun k => impl_ParseReader.f k s) e := by
  by_cases V : ∃ a b c : Nat, rOk a b c = true ∧ s = rText a b c
  · obtain ⟨m, d, r, h, rfl⟩ := V
    refine ⟨((m : Int), (d : Int), (r : Int), true), ?_, ?_⟩
    · simp only [spec_ParseReader.f]
      refine Ev.bind (rdParse_ev _ hs) ?_
      rw [rdP_hit m d r h]
      exact ev_if rfl (Ev.now _)
    · have := implParse_ev _ hs
      rw [imP_hit m d r h] at this
      exact this
  · refine ⟨(0, 0, 0, false), ?_, ?_⟩
    · simp only [spec_ParseReader.f]
      refine Ev.bind (rdParse_ev _ hs) ?_
      refine ev_else ?_ (Ev.now _)
      unfold rdP
      dsimp only
      split
      · simp
      · intro h
        rw [Bool.and_eq_true] at h
        exact V (has_of h.2)
    · have := implParse_ev _ hs
      unfold imP at this
      dsimp only at this
      rw [if_neg (fun h => V (has_of h.2))] at this
      exact this
theorem FnExactParseReader : laws_FnExactParseReader.Pure := by
  intro s _
  refine Ev.rounds (r := true) ?_
  by_cases hs : s.size ≤ 1048576
  · obtain ⟨e, h1, h2⟩ := same s hs
    simp only [laws_FnExactParseReader.f]
    refine ev_else (by omega) ?_
    refine Ev.bind h1 ?_
    refine Ev.bind h2 ?_
    simp only [laws_eqReader.f, if_true, Option.bind_some]
    refine ev_else (by simp) ?_
    exact Ev.now _
  · simp only [laws_FnExactParseReader.f]
    refine ev_if (by omega) ?_
    exact Ev.now _

end Go.Proofs.YtnlbcfeblkafjaaDoor.Pure
