/- The plain law behind FnExactReaderText, in lists and numbers alone: the program's and the reference's text of a reader are one. No condition beyond the printed bounds. -/
import Derived.Test.YtnlbcfeblkafjaaDoorXFnExactReaderTextx2
set_option linter.unusedVariables false
set_option linter.unusedSimpArgs false
namespace Go.Proofs.YtnlbcfeblkafjaaDoor.Pure
open Go.RowKit Go.Proofs.YtnlbcfeblkafjaaDoor.XFnExactReaderText Go.Proofs.YtnlbcfeblkafjaaDoorW.PrintWords Go.Proofs.YtnlbcfeblkafjaaDoorW.PrintLast Go.Proofs.YtnlbcfeblkafjaaDoorW.PrintMore
/-! ### Small words: rounds, reads, sums without a wrap. -/
theorem ev_some {α β : Type} {g : Option α} {f : Nat → α → Option β} {a : α} {r : β} (h : g = some a) (k : Ev (fun n => f n a) r) : Ev (fun n => g.bind (f n)) r := by
  subst h
  exact k
theorem ev_ret {α : Type} {r s : α} (h : r = s) : Ev (fun _ => some r) s := by
  subst h
  exact Ev.now r
theorem ev_map {α β : Type} {g : Nat → Option α} {f : α → β} {a : α} {r : β} (h : Ev g a) (e : f a = r) : Ev (fun n => (g n).bind fun t => some (f t)) r := Ev.bind h (ev_ret e)
theorem ev_eq {α : Type} {g f : Nat → Option α} {r : α} (h : g = f) (k : Ev f r) : Ev g r := by
  rw [h]
  exact k
theorem w64 {x : Int} (h0 : -9223372036854775808 ≤ x) (h1 : x ≤ 9223372036854775807) : wrap64 x = x := by
  unfold wrap64
  omega
theorem w64s {i : Nat} (h : i < 4611686018427387904) : wrap64 ((i : Int) + 1) = ((i + 1 : Nat) : Int) := by
  rw [w64 (by omega) (by omega)]
  rfl
theorem rd_nat (l : List Int) (i : Nat) (h : i < l.length) : rd l (i : Int) = l[i] := by
  unfold rd
  rw [Int.toNat_natCast, List.getD_eq_getElem?_getD, List.getElem?_eq_getElem h]
  rfl
theorem wf_i64 {x : Int} (h : (Lit.int .i64 x).wf = true) : -9223372036854775808 ≤ x ∧ x ≤ 9223372036854775807 := by
  simp only [Lit.wf, Bool.and_eq_true, decide_eq_true_eq] at h
  exact h
theorem ev_succ {α : Type} {g : Nat → Option α} {r : α} (h : Ev (fun k => g (k + 1)) r) : Ev g r := Ev.step (fun _ => rfl) h
theorem neg_no (n : Nat) : ¬ (1 + (n : Int) < 0) := by omega
theorem ev_if {α : Type} {c : Prop} [Decidable c] {g f : Nat → Option α} {r : α} (h : c) (k : Ev g r) : Ev (fun n => if c then g n else f n) r := Ev.congr (fun _ => if_pos h) k
theorem ev_else {α : Type} {c : Prop} [Decidable c] {g f : Nat → Option α} {r : α} (h : ¬ c) (k : Ev f r) : Ev (fun n => if c then g n else f n) r := Ev.congr (fun _ => if_neg h) k

theorem spec_l1In_eq (x lo hi : Int) : spec_l1In.f x lo hi = some (decide (lo ≤ x ∧ x ≤ hi)) := by
  unfold spec_l1In.f
  by_cases c : x ≥ lo
  · rw [if_pos c]
    congr 1
    simp only [c, true_and]
  · rw [if_neg c]
    congr 1
    exact (decide_eq_false (fun h => c h.1)).symm

theorem impl_within_eq (x lo hi : Int) : impl_within.f x lo hi = some (decide (lo ≤ x ∧ x ≤ hi)) := by
  unfold impl_within.f
  by_cases c : x ≥ lo
  · rw [if_pos c]
    congr 1
    simp only [c, true_and]
  · rw [if_neg c]
    congr 1
    exact (decide_eq_false (fun h => c h.1)).symm

def rOk (m d r : Int) : Bool := decide (0 ≤ m ∧ m ≤ 2000) && (decide (1 ≤ d ∧ d ≤ 200) && (decide (r = 0) || decide (2 ≤ r ∧ r ≤ 60)))
theorem rOk_is {m d r : Int} (h : rOk m d r = true) : (0 ≤ m ∧ m ≤ 2000) ∧ (1 ≤ d ∧ d ≤ 200) ∧ (r = 0 ∨ 2 ≤ r ∧ r ≤ 60) := by
  simp only [rOk, Bool.and_eq_true, Bool.or_eq_true, decide_eq_true_eq] at h
  exact h
theorem spec_rdGood_eq (m d r : Int) : spec_rdGood.f m d r = some (rOk m d r) := by
  simp only [spec_rdGood.f, spec_l1In_eq, Option.bind_some, rOk]
  by_cases a : 0 ≤ m ∧ m ≤ 2000
  · by_cases b : 1 ≤ d ∧ d ≤ 200
    · by_cases c : r = 0
      · simp [a, b, c]
      · simp [a, b, c]
    · simp [a, b]
  · simp [a]

theorem good_one (m d r : Int) : impl_areReaders.f [⟨m, d, r⟩] = some (rOk m d r) := by
  simp only [impl_areReaders.f, List.all_cons, List.all_nil, Bool.and_true]
  rfl
theorem good_two (m d r m' d' r' : Int) : impl_areReaders.f [⟨m, d, r⟩, ⟨m', d', r'⟩] = some (rOk m d r && rOk m' d' r') := by
  simp only [impl_areReaders.f, List.all_cons, List.all_nil, Bool.and_true]
  rfl

/-- A number's digits, as a text. -/
def numT (n : Nat) : ByteArray := ⟨(Go.Lib.decDigits n).toArray⟩
theorem numT_size (n : Nat) : (numT n).size = (Go.Lib.decDigits n).length := by simp [numT, ByteArray.size]
theorem dec_len : ∀ (j n : Nat), 1 ≤ j → n < 10 ^ j → (Go.Lib.decDigits n).length ≤ j
  | 0, _, h, _ => by omega
  | j + 1, n, _, h => by
    rw [Go.Lib.decDigits]
    by_cases c : n < 10
    · rw [dif_pos c]; simp
    · rw [dif_neg c, List.length_append, List.length_singleton]
      have hj : 1 ≤ j := by
        rcases Nat.eq_zero_or_pos j with z | z
        · subst z; simp at h; omega
        · exact z
      have := dec_len j (n / 10) hj (by rw [Nat.pow_succ] at h; omega)
      omega
theorem numT_le (n : Nat) (h : n ≤ 1000000) : 1 ≤ (numT n).size ∧ (numT n).size ≤ 21 := by
  rw [numT_size]
  refine ⟨?_, ?_⟩
  · rw [Go.Lib.decDigits]
    split <;> simp
  · have := dec_len 7 n (by omega) (by omega)
    omega
theorem ba_ext {x y : ByteArray} (h : x.data.toList = y.data.toList) : x = y := by
  cases x; cases y
  congr 1
  exact Array.toList_inj.1 h
theorem itoa_is (n : Nat) (h : n ≤ 1000000) : strconv_Itoa.f (n : Int) = some (numT n) := by
  unfold strconv_Itoa.f
  rw [if_pos (by omega), Go.Lib.itoa_nonneg]
  rfl
theorem byte_of (d : Nat) (h : d < 10) : strOfNums [(wrap64 (48 + (d : Int))) % 256] = ⟨#[UInt8.ofNat (48 + d)]⟩ := by
  rw [w64 (by omega) (by omega)]
  unfold strOfNums
  simp only [List.map_cons, List.map_nil]
  rw [show ((48 + (d : Int)) % 256).toNat = 48 + d by omega]
theorem dec_big {n : Nat} (c : ¬ n < 10) : Go.Lib.decDigits n = Go.Lib.decDigits (n / 10) ++ [UInt8.ofNat (48 + n % 10)] := by
  rw [Go.Lib.decDigits, dif_neg c]
theorem l1Num_ev : ∀ (n : Nat), n ≤ 1000000 → Ev (fun k => spec_l1Num.f k (n : Int)) (numT n) := by
  intro n
  induction n using Nat.strongRecOn with
  | _ n ih =>
    intro h
    refine ev_succ ?_
    simp only [spec_l1Num.f]
    by_cases c : n < 10
    · refine ev_if (by omega) ?_
      refine ev_ret ?_
      rw [byte_of n c]
      unfold numT
      rw [Go.Lib.decDigits, dif_pos c]
    · refine ev_else (by omega) ?_
      have e1 : wrap64 (Int.tdiv (n : Int) 10) = ((n / 10 : Nat) : Int) := by
        rw [Int.tdiv_eq_ediv_of_nonneg (by omega), w64 (by omega) (by omega)]
        omega
      have e2 : Int.tmod (n : Int) 10 = ((n % 10 : Nat) : Int) := by
        rw [Int.tmod_eq_emod_of_nonneg (by omega)]
        omega
      simp only [Option.bind_some]
      rw [e1, e2, byte_of (n % 10) (by omega)]
      refine Ev.bind (ih (n / 10) (by omega) (by omega)) ?_
      have hs := numT_le (n / 10) (by omega)
      have h1 : (ByteArray.mk #[UInt8.ofNat (48 + n % 10)]).size = 1 := rfl
      refine ev_if (by omega) ?_
      refine ev_ret ?_
      apply ba_ext
      show ((numT (n / 10)).append _).data.toList = _
      unfold numT
      rw [dec_big c]
      simp [ByteArray.append, ByteArray.copySlice, ByteArray.size]

/-- The text of a reader. -/
def rText (m d r : Nat) : ByteArray := if r = 0 then numT m ++ ⟨#[43]⟩ ++ numT d else numT m ++ ⟨#[43]⟩ ++ numT d ++ (⟨#[47]⟩ ++ numT r)
theorem sz43 : (ByteArray.mk #[43]).size = 1 := rfl
theorem sz47 : (ByteArray.mk #[47]).size = 1 := rfl
theorem rdText_ev (m d r : Nat) (hm : m ≤ 2000) (hd : d ≤ 200) (hr : r ≤ 60) : Ev (fun k => spec_rdText.f k (m : Int) (d : Int) (r : Int)) (rText m d r) := by
  have s1 := numT_le m (by omega)
  have s2 := numT_le d (by omega)
  have s3 := numT_le r (by omega)
  simp only [spec_rdText.f, rText]
  refine Ev.bind (l1Num_ev m (by omega)) ?_
  refine ev_if (by omega) ?_
  refine Ev.bind (l1Num_ev d (by omega)) ?_
  refine ev_if (by rw [ByteArray.size_append, sz43]; omega) ?_
  by_cases c : r = 0
  · rw [if_pos c]
    refine ev_else (by omega) ?_
    exact Ev.now _
  · rw [if_neg c]
    refine ev_if (by omega) ?_
    refine Ev.bind (l1Num_ev r (by omega)) ?_
    refine ev_if (by omega) ?_
    refine ev_if (by rw [ByteArray.size_append, ByteArray.size_append, ByteArray.size_append, sz43, sz47]; omega) ?_
    exact Ev.now _
theorem readerText_is (m d r : Nat) (hm : m ≤ 2000) (hd : d ≤ 200) (hr : r ≤ 60) : impl_readerText.f (m : Int) (d : Int) (r : Int) = some (rText m d r) := by
  have s1 := numT_le m (by omega)
  have s2 := numT_le d (by omega)
  have s3 := numT_le r (by omega)
  simp only [impl_readerText.f, rText]
  rw [itoa_is m (by omega), Option.bind_some, if_pos (by omega), itoa_is d (by omega), Option.bind_some, if_pos (by rw [ByteArray.size_append, sz43]; omega)]
  by_cases c : r = 0
  · rw [if_pos c, if_neg (by omega)]
  · rw [if_neg c, if_pos (by omega), itoa_is r (by omega), Option.bind_some, if_pos (by omega), if_pos (by rw [ByteArray.size_append, ByteArray.size_append, ByteArray.size_append, sz43, sz47]; omega)]
theorem same (m d r : Int) : ∃ e : ByteArray × Bool, Ev (fun k => spec_ReaderText.f k m d r) e ∧ Ev (fun _ => impl_ReaderText.f m d r) e := by
  simp only [spec_ReaderText.f, impl_ReaderText.f, good_one, spec_rdGood_eq, Option.bind_some]
  by_cases c : rOk m d r = true
  · obtain ⟨h1, h2, h3⟩ := rOk_is c
    obtain ⟨m, rfl⟩ := Int.eq_ofNat_of_zero_le h1.1
    obtain ⟨d, rfl⟩ := Int.eq_ofNat_of_zero_le (show 0 ≤ d by omega)
    obtain ⟨r, rfl⟩ := Int.eq_ofNat_of_zero_le (show 0 ≤ r by omega)
    refine ⟨(rText m d r, true), ?_, ?_⟩
    · simp only [c, if_true]
      exact Ev.bind (rdText_ev m d r (by omega) (by omega) (by omega)) (Ev.now _)
    · simp only [c, if_true, readerText_is m d r (by omega) (by omega) (by omega), Option.bind_some]
      exact Ev.now _
  · refine ⟨(⟨#[]⟩, false), ?_, ?_⟩
    all_goals
      simp only [c, Bool.false_eq_true, if_false]
      exact Ev.now _
theorem FnExactReaderText : ∀ (a0_0 : Int) (a0_1 : Int) (a0_2 : Int), (Lit.int .i64 a0_0).wf = true → (Lit.int .i64 a0_1).wf = true → (Lit.int .i64 a0_2).wf = true → ∃ k, laws_FnExactReaderText.f k a0_0 a0_1 a0_2 = some true := by
  intro m d r _ _ _
  refine Ev.rounds (r := true) ?_
  obtain ⟨e, h1, h2⟩ := same m d r
  simp only [laws_FnExactReaderText.f, laws_toReader.f, Option.bind_some]
  refine Ev.bind h1 ?_
  refine Ev.bind h2 ?_
  refine ev_if rfl ?_
  refine ev_else (by simp) ?_
  exact Ev.now _

end Go.Proofs.YtnlbcfeblkafjaaDoor.Pure
