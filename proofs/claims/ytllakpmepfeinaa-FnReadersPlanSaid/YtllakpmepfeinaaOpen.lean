/- What a law's arguments read as: slices of whole numbers, structs of whole numbers, a struct of a slice and a number, slices of structs, slices of slices: each opened to plain data. No condition beyond what the row gives. -/
import Derived.Test.YtllakpmepfeinaaWSized
import Derived.Test.YtllakpmepfeinaaWMore
import Derived.Lib.SmallJoins
import Derived.Deep.Slices
import Derived.Deep.Matrix
import Derived.Deep.Strs
import Derived.ChangeSame
namespace Go.Proofs.Ytllakpmepfeinaa.Op
open Go.RowKit Go.ChangeShapes Go.WideShapes Go.Joins Go.Deep Go.Proofs.YtllakpmepfeinaaW.PrintWords Go.Proofs.YtllakpmepfeinaaW.PrintLast
section
variable {H : Type} {enc : TypeId × Value → H} {P : Program} {W : World} {r : Reach} {b0 : Nat} {v : Value} {d : DataW H} {p : List MemPlace}

/-- Cells that read as a slice of whole numbers. -/
theorem ints0 {k : IntKind} {t e : TypeId} {fuel : Nat} {cs : List Value} {x : DataW H × List MemPlace} (ht : P.underlying t = some (.slice e)) (he : P.underlying e = some (.int k)) (hc : P.cellsOf e = 1) (h : DataW.trod enc P W 0 (fun _ => true) true fuel t cs = some x) :
    ∃ (A : Option Addr) (c : Nat) (l : List Int), cs = [.slice A l.length c] ∧ ReadsInt W k A l.length l ∧ l.length ≤ maxLen ∧ (∀ x ∈ l, (Lit.int k x).wf = true) ∧ l.length ≤ c := by
  rcases open_ints ht he hc h with ⟨hcs, _⟩ | ⟨a, len, cap, zs, hcs, _, hl, hm, hz, _, hcell, hwz⟩
  · obtain ⟨l, e1, h1, h2, h3, h4⟩ := ReadsInt.ofRowC (k := k) (w := W) (a := none) (len := 0) (cap := 0) (zs := []) (.inl ⟨rfl, rfl, rfl, rfl⟩)
    exact ⟨none, 0, l, by rw [hcs, ← e1], h1, h2, h3, h4⟩
  · obtain ⟨l, e1, h1, h2, h3, h4⟩ := ReadsInt.ofRowC (k := k) (w := W) (a := some a) (len := len) (cap := cap) (zs := zs) (.inr ⟨a, rfl, hl, hm, by simpa using hz, hcell, hwz⟩)
    exact ⟨some a, cap, l, by rw [hcs, ← e1], h1, h2, h3, h4⟩

/-- A slice of whole numbers. -/
theorem ints {k : IntKind} {t e : TypeId} (ht : P.underlying t = some (.slice e)) (he : P.underlying e = some (.int k)) (hc : P.cellsOf e = 1) (hv : Value.okWide P W r b0 t v) (h : DataW.Trod enc P W 0 (fun _ => true) true t v d p) :
    ∃ (A : Option Addr) (c : Nat) (l : List Int), v = .slice A l.length c ∧ ReadsInt W k A l.length l ∧ l.length ≤ maxLen ∧ (∀ x ∈ l, (Lit.int k x).wf = true) ∧ l.length ≤ c := by
  obtain ⟨a, len, cap, rfl⟩ := okWide_slice ht hv
  obtain ⟨fuel, hf⟩ := h
  obtain ⟨A, c, l, hcs, h1⟩ := ints0 ht he hc hf
  refine ⟨A, c, l, ?_, h1⟩
  simpa [Value.cells] using hcs

/-- A struct of three whole numbers. -/
theorem agg3 {t : TypeId} {f0 f1 f2 : Field} (hs : P.underlying t = some (.struct #[f0, f1, f2])) (hone : oneCellFields P #[f0, f1, f2] = true) (hC : P.cellsOf t = 3)
    (h0 : P.underlying f0.type = some (.int .i64)) (h1 : P.underlying f1.type = some (.int .i64)) (h2 : P.underlying f2.type = some (.int .i64)) (hv : Value.okWide P W r b0 t v) (h : DataW.Trod enc P W 0 (fun _ => true) true t v d p) :
    ∃ a b c : Int, v = .agg #[.int .i64 a, .int .i64 b, .int .i64 c] ∧ (Lit.int .i64 a).wf = true ∧ (Lit.int .i64 b).wf = true ∧ (Lit.int .i64 c).wf = true := by
  obtain ⟨v0, v1, v2, y0, y1, y2, n, rfl, _, _, t0, t1, t2⟩ := open_agg3 hs hone hC hv h
  obtain ⟨a, ha, _, wa⟩ := DataW.trod_int h0 t0
  obtain ⟨b, hb, _, wb⟩ := DataW.trod_int h1 t1
  obtain ⟨c, hc, _, wc⟩ := DataW.trod_int h2 t2
  simp only [List.cons.injEq, and_true] at ha hb hc
  subst ha hb hc
  exact ⟨a, b, c, rfl, wa, wb, wc⟩

/-- A struct of a slice of whole numbers and a number. -/
theorem aggInts {t : TypeId} {f0 f1 : Field} {e : TypeId} (hs : P.underlying t = some (.struct #[f0, f1])) (hone : oneCellFields P #[f0, f1] = true) (hC : P.cellsOf t = 2)
    (h0 : P.underlying f0.type = some (.slice e)) (he : P.underlying e = some (.int .i64)) (hc : P.cellsOf e = 1) (h1 : P.underlying f1.type = some (.int .i64)) (hv : Value.okWide P W r b0 t v) (h : DataW.Trod enc P W 0 (fun _ => true) true t v d p) :
    ∃ (A : Option Addr) (c : Nat) (l : List Int) (b : Int), v = .agg #[.slice A l.length c, .int .i64 b] ∧ ReadsInt W .i64 A l.length l ∧ l.length ≤ maxLen ∧ (∀ x ∈ l, (Lit.int .i64 x).wf = true) ∧ l.length ≤ c ∧ (Lit.int .i64 b).wf = true := by
  obtain ⟨v0, v1, y0, y1, n, rfl, _, _, t0, t1⟩ := open_agg2 hs hone hC hv h
  obtain ⟨A, c, l, hcs, g1, g2, g3, g4⟩ := ints0 h0 he hc t0
  obtain ⟨b, hb, _, wb⟩ := DataW.trod_int h1 t1
  simp only [List.cons.injEq, and_true] at hcs hb
  subst hcs hb
  exact ⟨A, c, l, b, rfl, g1, g2, g3, g4, wb⟩
/-- Cells that read as a slice of structs of three whole numbers. -/
theorem structs3 {t e : TypeId} {f0 f1 f2 : Field} (ht : P.underlying t = some (.slice e)) (he : P.underlying e = some (.struct #[f0, f1, f2])) (hone : oneCellFields P #[f0, f1, f2] = true) (hC : P.cellsOf e = 3)
    (h0 : P.underlying f0.type = some (.int .i64)) (h1 : P.underlying f1.type = some (.int .i64)) (h2 : P.underlying f2.type = some (.int .i64)) (hv : Value.okWide P W r b0 t v) (h : DataW.Trod enc P W 0 (fun _ => true) true t v d p) :
    ∃ (A : Option Addr) (c : Nat) (z : List (Int × Int × Int)), v = .slice A z.length c ∧ Kd.C (Kd.pair (Kd.int .i64) (Kd.pair (Kd.int .i64) (Kd.int .i64))) W A z.length z ∧ z.length ≤ maxLen ∧
      (∀ y ∈ z, (Lit.int .i64 y.1).wf = true ∧ (Lit.int .i64 y.2.1).wf = true ∧ (Lit.int .i64 y.2.2).wf = true) ∧ z.length ≤ c := by
  obtain ⟨a, len, cap, rfl⟩ := okWide_slice ht hv
  obtain ⟨fuel, hf⟩ := h
  have hf' : DataW.trod enc P W 0 (fun _ => true) true fuel t [.slice a len cap] = some (d, p) := by simpa [Value.cells] using hf
  rcases open_slice ht hf' with ⟨hcs, _⟩ | ⟨a', len', cap', m, n, D, Pl, hcs, _, hl, hm, hmm, _, hi⟩
  · simp only [List.cons.injEq, and_true] at hcs
    rw [hcs]
    exact ⟨none, 0, [], rfl, ⟨rfl, by decide, fun hn => absurd hn (Nat.lt_irrefl 0)⟩, Nat.zero_le _, by simp, Nat.le_refl 0⟩
  · simp only [List.cons.injEq, and_true] at hcs
    obtain ⟨rfl, rfl, rfl⟩ := (by injection hcs with e1 e2 e3; exact ⟨e1, e2, e3⟩ : a = some a' ∧ len = len' ∧ cap = cap')
    simp only [if_true] at hmm
    have each : ∀ i, i < len → ∃ y : Int × Int × Int, ((Lit.int .i64 y.1).wf = true ∧ (Lit.int .i64 y.2.1).wf = true ∧ (Lit.int .i64 y.2.2).wf = true) ∧ ∀ (j : Nat) (u : Value), ([.int .i64 y.1, .int .i64 y.2.1, .int .i64 y.2.2] : List Value)[j]? = some u → W.cell? (a'.add (i * 3 + j)) = some u := by
      intro i him
      obtain ⟨cs', hc, htr⟩ := hi i (by omega)
      rw [hC] at hc
      obtain ⟨_, hcl, hat⟩ := World.cells?_some hc
      obtain ⟨y0, y1, y2, n', _, _, t0, t1, t2⟩ := trod_struct3 he htr
      obtain ⟨o0, k0⟩ := hone_of hone 0 f0 rfl
      obtain ⟨o1, k1⟩ := hone_of hone 1 f1 rfl
      obtain ⟨o2, k2⟩ := hone_of hone 2 f2 rfl
      rw [o0, k0] at t0
      rw [o1, k1] at t1
      rw [o2, k2] at t2
      match cs', hcl with
      | [c0, c1, c2], _ =>
        obtain ⟨x0, e0, _, w0⟩ := DataW.trod_int h0 t0
        obtain ⟨x1, e1, _, w1⟩ := DataW.trod_int h1 t1
        obtain ⟨x2, e2, _, w2⟩ := DataW.trod_int h2 t2
        simp at e0 e1 e2
        subst e0 e1 e2
        refine ⟨(x0, x1, x2), ⟨w0, w1, w2⟩, fun j u hu => ?_⟩
        have hj : j < 3 := by
          rcases Nat.lt_or_ge j 3 with h | h
          · exact h
          · rw [List.getElem?_eq_none (by simpa using h)] at hu; cases hu
        rw [← Go.Deep.add_add, hat j hj]
        exact hu
    obtain ⟨Y, hY⟩ := choose_lt each
    have hzl : ((List.range len).map Y).length = len := by simp
    refine ⟨some a', cap, (List.range len).map Y, by rw [hzl], ?_, by rw [hzl]; omega, ?_, by rw [hzl]; exact hl⟩
    · have hbig : ((List.range len).map Y).length ≤ 9223372036854775807 := by
        have : maxLen ≤ 9223372036854775807 := by decide
        omega
      refine ⟨rfl, hbig, fun _ => ⟨a', rfl, fun j q hj => ?_⟩⟩
      obtain ⟨hjl, hq⟩ := List.getElem?_eq_some_iff.1 hj
      rw [List.getElem_map, List.getElem_range] at hq
      subst hq
      refine ⟨[.int .i64 (Y j).1, .int .i64 (Y j).2.1, .int .i64 (Y j).2.2], rfl, ⟨[.int .i64 (Y j).1], [.int .i64 (Y j).2.1, .int .i64 (Y j).2.2], rfl, rfl, ⟨[.int .i64 (Y j).2.1], [.int .i64 (Y j).2.2], rfl, rfl, rfl⟩⟩, fun i u hu => ?_⟩
      exact (hY j (by rw [hzl] at hjl; exact hjl)).2 i u hu
    · intro y hy
      obtain ⟨i, hi', rfl⟩ := List.mem_map.1 hy
      exact (hY i (List.mem_range.1 hi')).1

/-- The same row, named otherwise. -/
theorem C_iso {α β : Type} {k : Kd α} {A : Option Addr} {n : Nat} {z : List α} {f : β → α} {g : α → β} (hfg : ∀ x, f (g x) = x) (h : Kd.C k W A n z) : Kd.C (Kd.iso k f) W A n (z.map g) := by
  obtain ⟨h1, h2, h3⟩ := h
  refine ⟨by rw [List.length_map]; exact h1, h2, fun hn => ?_⟩
  obtain ⟨ad, e, hc⟩ := h3 hn
  refine ⟨ad, e, fun j q hj => ?_⟩
  rw [List.getElem?_map] at hj
  obtain ⟨x, hx, rfl⟩ := Option.map_eq_some_iff.1 hj
  obtain ⟨c, c1, c2, c3⟩ := hc j x hx
  exact ⟨c, c1, (by show k.K W (f (g x)) c; rw [hfg]; exact c2), c3⟩

/-- A slice of slices of whole numbers. -/
theorem rows {t e q : TypeId} (ht : P.underlying t = some (.slice e)) (he : P.underlying e = some (.slice q)) (hq : P.underlying q = some (.int .i64)) (ce : P.cellsOf e = 1) (cq : P.cellsOf q = 1) (hv : Value.okWide P W r b0 t v) (h : DataW.Trod enc P W 0 (fun _ => true) true t v d p) :
    ∃ (A : Option Addr) (c : Nat) (l : List (List Int)), v = .slice A l.length c ∧ Kd.C (Kd.slice q (Kd.int .i64)) W A l.length l ∧ l.length ≤ maxLen ∧ (∀ x ∈ l, x.length ≤ maxLen ∧ ∀ y ∈ x, (Lit.int .i64 y).wf = true) ∧ l.length ≤ c := by
  obtain ⟨a, len, cap, rfl⟩ := okWide_slice ht hv
  obtain ⟨fuel, hf⟩ := h
  have hf' : DataW.trod enc P W 0 (fun _ => true) true fuel t [.slice a len cap] = some (d, p) := by simpa [Value.cells] using hf
  rcases open_slice1 ht ce hf' with ⟨hcs, _⟩ | ⟨a', len', cap', m, n, V, D, Pl, hcs, _, hl, hm, hmm, _, hx⟩
  · simp only [List.cons.injEq, and_true] at hcs
    rw [hcs]
    exact ⟨none, 0, [], rfl, ⟨rfl, by decide, fun hn => absurd hn (Nat.lt_irrefl 0)⟩, Nat.zero_le _, by simp, Nat.le_refl 0⟩
  · simp only [List.cons.injEq, and_true] at hcs
    obtain ⟨rfl, rfl, rfl⟩ := (by injection hcs with e1 e2 e3; exact ⟨e1, e2, e3⟩ : a = some a' ∧ len = len' ∧ cap = cap')
    simp only [if_true] at hmm
    have each : ∀ i, i < len → ∃ y : List Int, (y.length ≤ maxLen ∧ ∀ z ∈ y, (Lit.int .i64 z).wf = true) ∧ ∃ A c, W.cell? (a'.add i) = some (.slice A y.length c) ∧ y.length ≤ c ∧ Kd.C (Kd.int .i64) W A y.length y := by
      intro i hi
      obtain ⟨A, c, l, hcs, g1, g2, g3, g4⟩ := ints0 he hq cq (hx i (by omega)).2
      refine ⟨l, ⟨g2, g3⟩, A, c, ?_, g4, Kd.C_of_reads (d := (0 : Int)) (h1 := fun _ => rfl) g1⟩
      rw [(hx i (by omega)).1]
      simpa using hcs
    obtain ⟨Y, hY⟩ := choose_lt each
    have hzl : ((List.range len).map Y).length = len := by simp
    refine ⟨some a', cap, (List.range len).map Y, by rw [hzl], ?_, by rw [hzl]; omega, ?_, by rw [hzl]; exact hl⟩
    · have hbig : ((List.range len).map Y).length ≤ 9223372036854775807 := by
        have : maxLen ≤ 9223372036854775807 := by decide
        omega
      refine ⟨rfl, hbig, fun _ => ⟨a', rfl, fun j q hj => ?_⟩⟩
      obtain ⟨hjl, hq⟩ := List.getElem?_eq_some_iff.1 hj
      rw [List.getElem_map, List.getElem_range] at hq
      subst hq
      obtain ⟨_, A, c, hc, hle, hC⟩ := hY j (by rw [hzl] at hjl; exact hjl)
      refine ⟨[.slice A (Y j).length c], rfl, ⟨A, c, rfl, hle, hC⟩, fun i u hu => ?_⟩
      match i, hu with
      | 0, hu =>
        have hu' : Value.slice A (Y j).length c = u := by simpa using hu
        rw [← hu']
        show W.cell? (a'.add (j * 1 + 0)) = _
        rw [Nat.mul_one, Nat.add_zero]
        exact hc
    · intro y hy
      obtain ⟨i, hi', rfl⟩ := List.mem_map.1 hy
      exact (hY i (List.mem_range.1 hi')).1
end
end Go.Proofs.Ytllakpmepfeinaa.Op
