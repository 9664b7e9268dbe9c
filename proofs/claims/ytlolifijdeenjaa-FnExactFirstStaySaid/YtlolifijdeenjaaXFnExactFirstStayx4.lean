-- Written by a program of this session: the machine side of the law FnExactFirstStay, with contracts proved by hand for what the kit's print doesn't take. Lean checks it.
import Derived.Test.YtlolifijdeenjaaXFnExactFirstStayx0
import Derived.Test.YtlolifijdeenjaaXFnExactFirstStayx3
namespace Go.Proofs.Ytlolifijdeenjaa.XFnExactFirstStay
open Go.RowKit Go.Proofs.YtlolifijdeenjaaW.PrintWords Go.Proofs.YtlolifijdeenjaaW.PrintLast Go.Proofs.YtlolifijdeenjaaW.PrintMore
attribute [local go_sem] max2_int min2_int max_two min_two max_three min_three max_four min_four   -- for this text's walks alone
set_option linter.unusedVariables false
set_option linter.unusedSimpArgs false


/-! ### impl_stay: function 34: by hand -/
/-- A longer list is taken. -/
def impl_stay.up (b p : List Int) : List Int := if b.length < p.length then p else b
/-- The search: what is best once all lists that go on behind 'p' from place k on, over volumes above v, have been tried. -/
def impl_stay.lp (l : List Int) : Nat → Nat → Int → List Int → List Int → List Int
  | 0, _, _, _, b => b
  | f + 1, k, v, p, b => if v < rd l (k : Int) then impl_stay.lp l f (k + 1) v p (impl_stay.lp l f (k + 1) (rd l (k : Int)) (p ++ [(k : Int)]) (impl_stay.up b (p ++ [(k : Int)]))) else impl_stay.lp l f (k + 1) v p b
def impl_stay.f (l0 : List Int) : Option (List Int) := if l0.length ≤ 8 then (some (impl_stay.lp l0 l0.length 0 (-1) [] [])) else (none)
theorem impl_stay.two_run {P : Program} (w : World) (base : Nat) (t ty e : TypeId) (i : TypeInfo) (z : Value) (bytes : Nat) (ht : P.underlying t = some (.slice e)) (hi : P.info? e = some i) (hz : i.zero = some z)
    (hsize : i.size = 1) (hby : i.bytes = bytes) (hzs : z.cells.size = 1)
    (v : Value) (n : Nat) (xs : List Value) (hown : w.ownsRow base e 1 v n xs)
    (a : Addr) (c : Nat) (y : Value) (hnews : w.cell? a = some y) (h1 : y.oneCell' = true)
    (h63 : n + 1 ≤ maxLen) (hbytes : (n + 1) * bytes ≤ 140737488355328) (hbase : base ≤ w.heap.size) :
    ∃ g cap w', (Builtin.append_ #[t, t] ty #[v, .slice (some a) 1 c]).run P w = .ok (.slice (some ⟨g, 0, none⟩) (n + 1) cap) w' ∧ w'.ownsRow base e 1 (.slice (some ⟨g, 0, none⟩) (n + 1) cap) (n + 1) (xs ++ [y]) ∧
      w.grownBy w' v.ownBlock ∧ g < w'.heap.size ∧ (v = .slice (some ⟨g, 0, none⟩) n cap ∨ g = w.heap.size ∧ w.grownBy w' none) := by
  have hN : ∀ j u, ([y] : List Value)[j]? = some u → w.cell? (a.add j) = some u := by
    intro j u hj
    match j, hj with
    | 0, hj =>
      have : y = u := by simpa using hj
      rw [← this]
      simpa [Addr.add] using hnews
  have h1' : ∀ u ∈ [y], u.oneCell' = true := fun u hu => by rw [List.mem_singleton.1 hu]; exact h1
  rcases hown.2 with ⟨rfl, rfl⟩ | ⟨g, cap, cur, rfl, hbg, hg, hnc, hcm, hcs, htake⟩
  · obtain ⟨g, cap, w', hr, h2, h3, h4, h5⟩ := run_append_lies (P := P) w t ty base e i z 1 bytes ht hi hz hsize hby hzs (by omega) _ 0 xs hown a 1 c [y] rfl hN h1' (by omega) h63 hbytes hbase _ rfl
    refine ⟨g, cap, w', hr, h2, h3, h5, ?_⟩
    rcases h4 with h4 | h4
    · simp [Value.ownBlock] at h4
    · exact .inr ⟨h4, h3⟩
  · by_cases hroom : n + 1 ≤ cap
    · have hr := run_append_room (P := P) w t ty e i ht hi g n cap cur hg a 1 c [y] (by rw [hsize]; rfl) hN h1' hroom (by rw [hsize]; simp only [List.length_singleton]; omega)
      obtain ⟨g', cap', w', hr', h2, h3, h4, h5⟩ := run_append_lies (P := P) w t ty base e i z 1 bytes ht hi hz hsize hby hzs (by omega) _ n xs hown a 1 c [y] rfl hN h1' (by omega) h63 hbytes hbase _ rfl
      rw [hr] at hr'
      injection hr' with e1 e2
      injection e1 with e3 e4 e5
      injection e3 with e3
      injection e3 with e3
      subst e3
      subst e5
      subst e2
      exact ⟨_, _, _, hr, h2, h3, h5, .inl rfl⟩
    · have holds : ∀ j u, xs[j]? = some u → w.cell? ((⟨g, 0, none⟩ : Addr).add j) = some u := hown.cells (g := g) rfl
      have hr := run_append_grow (P := P) w t ty e i z ht hi hz ⟨g, 0, none⟩ n cap xs (by rw [hsize]; exact hown.1) holds a 1 c [y] (by rw [hsize]; rfl) hN (by omega) (by simp only [maxLen] at h63; omega) (growslice_fits (by simp only [maxLen] at h63; omega) (by rw [hby]; exact hbytes))
      obtain ⟨g', cap', w', hr', h2, h3, h4, h5⟩ := run_append_lies (P := P) w t ty base e i z 1 bytes ht hi hz hsize hby hzs (by omega) _ n xs hown a 1 c [y] rfl hN h1' (by omega) h63 hbytes hbase _ rfl
      rw [hr] at hr'
      injection hr' with e1 e2
      injection e1 with e3 e4 e5
      injection e3 with e3
      injection e3 with e3
      subst e3
      subst e5
      refine ⟨_, _, _, hr.trans (by rw [e2]), h2, h3, h5, .inr ⟨rfl, ?_⟩⟩
      rw [← e2]
      exact ⟨rfl, rfl, rfl, by simp, fun k hk _ => by first | exact heap_alloc_old w.drew _ hk | exact heap_alloc_old w.drew _ k hk⟩

/-- The same at a step of a region that draws its order. -/
theorem impl_stay.two_step {P : Program} {ops : Array Oper} {o : Oper} {a : Act} {K : Act → World → Prop} {Q : Exit → Act → World → Prop} {E : Prop} (w : World) (hgd : o.guard = none) (s x : Operand) (t : TypeId)
    (ho : o.op = .call { callee := .builtin .append, args := #[s, x], argTypes := #[t, t] })
    (base : Nat) (e : TypeId) (i : TypeInfo) (z : Value) (bytes : Nat) (ht : P.underlying t = some (.slice e)) (hi : P.info? e = some i) (hz : i.zero = some z)
    (hsize : i.size = 1) (hby : i.bytes = bytes) (hzs : z.cells.size = 1)
    (v : Value) (n : Nat) (xs : List Value) (hs : a.eval s = v) (hown : w.ownsRow base e 1 v n xs)
    (ad : Addr) (c : Nat) (y : Value) (hx : a.eval x = .slice (some ad) 1 c) (hnews : w.cell? ad = some y) (h1 : y.oneCell' = true)
    (h63 : n + 1 ≤ maxLen) (hbytes : (n + 1) * bytes ≤ 140737488355328) (hbase : base ≤ w.heap.size)
    (h : ∀ g cap w', w'.ownsRow base e 1 (.slice (some ⟨g, 0, none⟩) (n + 1) cap) (n + 1) (xs ++ [y]) → w.grownBy w' v.ownBlock → g < w'.heap.size → (v = .slice (some ⟨g, 0, none⟩) n cap ∨ g = w.heap.size ∧ w.grownBy w' none) →
      K (a.put o.dst (.slice (some ⟨g, 0, none⟩) (n + 1) cap)) w') :
    if Region.wanted o (yielded ops a.tmps) = true then Oper.wp P o a w K Q else E := by
  have hw : Region.wanted o (yielded ops a.tmps) = true := by simp [Region.wanted, hgd]
  rw [if_pos hw]
  obtain ⟨g, cap, w', hr, h2, h3, h4, h5⟩ := impl_stay.two_run (P := P) w base t o.type e i z bytes ht hi hz hsize hby hzs v n xs hown ad c y hnews h1 h63 hbytes hbase
  unfold Oper.wp execOp
  simp only [ho, resolve, invoke, builtin, Sem.run_bind, Sem.run_pure, Result.andThen_ok, List.map_toArray, List.map_cons, List.map_nil, hs, hx, hr]
  exact h g cap w' h2 h3 h4 h5
/-- What a search leaves: the list that it was handed, the best; elsewhere all as it was. -/
structure impl_stay.Aft (base : Nat) (W w' : World) (ok : Nat → Prop) (bb : Nat) (vp : Value) (P B : List Int) : Prop where
  os : w'.os = W.os
  tape : w'.tape = W.tape
  output : w'.output = W.output
  size : W.heap.size ≤ w'.heap.size
  keep : ∀ i, i < W.heap.size → i ≠ bb → some i ≠ vp.ownBlock → w'.heap[i]? = W.heap[i]?
  own : w'.ownsRow base 3 1 vp P.length (nums .i64 P)
  best : ∃ vb, w'.heap[bb]? = some (.cells #[vb] 22 (0, 0)) ∧ Kd.R (Kd.int .i64) 3 w' base ok vb B
/-- The shorter list of one row. -/
theorem impl_stay.shorter {w : World} {base e g n cap cap' : Nat} {xs : List Value} {y : Value} (h : w.ownsRow base e 1 (.slice (some ⟨g, 0, none⟩) (n + 1) cap) (n + 1) (xs ++ [y])) : w.ownsRow base e 1 (.slice (some ⟨g, 0, none⟩) n cap) n xs := by
  have hl := h.1
  rw [List.length_append, List.length_singleton] at hl
  refine ⟨by omega, .inr ?_⟩
  rcases h.2 with ⟨e0, _⟩ | ⟨g', cap', cur, e0, hb, hh, hn, hm, hs, ht⟩
  · cases e0
  · injection e0 with e1 _ e3
    injection e1 with e1
    injection e1 with e1
    subst e1 e3
    refine ⟨g, cap, cur, rfl, hb, hh, by omega, hm, hs, ?_⟩
    have := congrArg (List.take n) ht
    rw [List.take_take, show min n ((n + 1) * 1) = n by omega, List.take_left' (by omega)] at this
    rw [Nat.mul_one]
    exact this
/-- One more list behind this one has been tried. -/
theorem impl_stay.Aft.step {base : Nat} {W wr Wb W2 w' : World} {ok : Nat → Prop} {bb g cap k : Nat} {vp : Value} {P B B2 : List Int}
    (h : impl_stay.Aft base W wr ok bb vp P B) (hbox : wr.grownBy Wb none) (hown : W2.ownsRow base 3 1 (.slice (some ⟨g, 0, none⟩) (P.length + 1) cap) (P.length + 1) (nums .i64 P ++ [.int .i64 (k : Int)])) (hgr : Wb.grownBy W2 vp.ownBlock) (hcase : vp = .slice (some ⟨g, 0, none⟩) P.length cap ∨ g = Wb.heap.size ∧ Wb.grownBy W2 none)
    (h2 : impl_stay.Aft base W2 w' (fun i => ok i ∧ i ≠ g) bb (.slice (some ⟨g, 0, none⟩) (P.length + 1) cap) (P ++ [(k : Int)]) B2) (hbb : bb < W.heap.size) (hbt : some bb ≠ vp.ownBlock) (hfr : ∀ i, W.heap.size ≤ i → ok i) : impl_stay.Aft base W w' ok bb vp P B2 := by
  have s1 := h.size
  have s2 := hbox.size
  have s3 := hgr.size
  have s4 := h2.size
  refine ⟨h2.os.trans (hgr.os.trans (hbox.os.trans h.os)), h2.tape.trans (hgr.tape.trans (hbox.tape.trans h.tape)), h2.output.trans (hgr.output.trans (hbox.output.trans h.output)), by omega, fun i hi h3 h4 => ?_, ?_, ?_⟩
  · have e1 : w'.heap[i]? = W2.heap[i]? := h2.keep i (by omega) h3 (by
      rcases hcase with rfl | ⟨rfl, _⟩
      · exact h4
      · intro q
        have : i = Wb.heap.size := by simpa [Value.ownBlock] using q
        omega)
    rw [e1, hgr.block i (by omega) h4, hbox.block i (by omega) (by simp)]
    exact h.keep i hi h3 h4
  · rcases hcase with rfl | ⟨rfl, hg2⟩
    · have := h2.own
      rw [List.length_append, List.length_singleton, nums_append] at this
      exact impl_stay.shorter (cap' := cap) this
    · refine own_move h.own (fun i hi => ?_)
      have hlt := own_lt h.own i hi
      rw [h2.keep i (by omega) (fun q => hbt (by rw [← q]; exact hi.symm)) (fun q => by
        have : i = Wb.heap.size := by simpa [Value.ownBlock] using q
        omega), hg2.block i (by omega) (by simp), hbox.block i hlt (by simp)]
  · obtain ⟨vb, hv, hR⟩ := h2.best
    exact ⟨vb, hv, Kd.R_mono hR (fun i hi => hi.1)⟩
/-- Where a search stands: at the start, or behind the last place of its list. -/
def impl_stay.At (l : List Int) (k : Nat) (v : Int) (P : List Int) : Prop := (P = [] ∧ k = 0 ∧ v = -1) ∨ ∃ P0 j, P = P0 ++ [((j : Nat) : Int)] ∧ j < l.length ∧ k = j + 1 ∧ v = rd l (j : Int)
theorem impl_stay.C_box {W : World} {b : Nat} {v : Value} {t : TypeId} (h : W.heap[b]? = some (.cells #[v] t (0, 0))) : W.cell? ⟨b, 0, none⟩ = some v ∧ W.frozen? ⟨b, 0, none⟩ = false := ⟨by rw [blk_cell h]; rfl, blk_frozen h 0⟩
theorem impl_stay.cellC {W : World} {A : Option Addr} {n : Nat} {xs : List Int} (h : Kd.C (Kd.int .i64) W A n xs) (i : Nat) (hi : i < n) : ∃ ad, A = some ad ∧ W.cell? (ad.add i) = some (.int .i64 (rd xs (i : Int))) := by
  have hl := h.1
  obtain ⟨ad, e, hcell⟩ := h.2.2 (by omega)
  obtain ⟨cs, _, hcs, hcc⟩ := hcell i _ (List.getElem?_eq_getElem (show i < xs.length by omega))
  have hcs' : cs = [Value.int .i64 xs[i]] := hcs
  have hx := hcc 0 (Value.int .i64 xs[i]) (by rw [hcs']; rfl)
  rw [show i * (Kd.int .i64).sz + 0 = i from by show i * 1 + 0 = i; omega] at hx
  refine ⟨ad, e, hx.trans ?_⟩
  congr 2
  unfold rd
  rw [Int.toNat_natCast, List.getD_eq_getElem?_getD, List.getElem?_eq_getElem (show i < xs.length by omega)]
  rfl
theorem impl_stay.Aft.keeps {base : Nat} {W wr : World} {ok : Nat → Prop} {bb : Nat} {vp : Value} {P B : List Int} (h : impl_stay.Aft base W wr ok bb vp P B) {i : Nat} {o : Obj} (hi : W.heap[i]? = some o) (n1 : i ≠ bb) (n2 : some i ≠ vp.ownBlock) : wr.heap[i]? = some o := (h.keep i (blk_lt hi) n1 n2).trans hi
theorem impl_stay.Aft.below {w W wr : World} {ok : Nat → Prop} {bb : Nat} {vp : Value} {P B : List Int} (h : impl_stay.Aft w.heap.size W wr ok bb vp P B) (hb : Below w.heap.size w W) (hbb : w.heap.size ≤ bb) : Below w.heap.size w wr :=
  ⟨h.os.trans hb.os, h.tape.trans hb.tape, h.output.trans hb.output, Nat.le_trans hb.size h.size, fun i hi => (h.keep i (Nat.lt_of_lt_of_le hi hb.size) (by omega) (fun e => by have := own_base h.own i e.symm; omega)).trans (hb.block i hi)⟩
/-- Nothing has been tried yet. -/
theorem impl_stay.Aft.here {base : Nat} {W : World} {ok : Nat → Prop} {bb : Nat} {vp vb : Value} {P B : List Int} (ho : W.ownsRow base 3 1 vp P.length (nums .i64 P)) (hv : W.heap[bb]? = some (.cells #[vb] 22 (0, 0))) (hb : Kd.R (Kd.int .i64) 3 W base ok vb B) (n : Nat) : impl_stay.Aft base W (W.drewN n) ok bb vp P B :=
  ⟨rfl, rfl, rfl, Nat.le_refl _, fun _ _ _ _ => rfl, own_move ho (fun _ _ => rfl), vb, hv, Kd.R_move hb (fun _ _ => rfl)⟩
theorem impl_stay.Aft.drewN {base : Nat} {W wr : World} {ok : Nat → Prop} {bb : Nat} {vp : Value} {P B : List Int} (h : impl_stay.Aft base W wr ok bb vp P B) (n : Nat) : impl_stay.Aft base W (wr.drewN n) ok bb vp P B := by
  obtain ⟨vb, h1, h2⟩ := h.best
  exact ⟨h.os, h.tape, h.output, h.size, h.keep, own_move h.own (fun _ _ => rfl), vb, h1, Kd.R_move h2 (fun _ _ => rfl)⟩
/-- The list at hand has been taken for the best: a copy of it lies in the best's box. -/
theorem impl_stay.Aft.taken {base : Nat} {W w1 : World} {ok : Nat → Prop} {bb : Nat} {vp vb v1 : Value} {P : List Int} (hbase : base ≤ W.heap.size) (ho : W.ownsRow base 3 1 vp P.length (nums .i64 P)) (hv : W.heap[bb]? = some (.cells #[vb] 22 (0, 0)))
    (h1 : Kd.R (Kd.int .i64) 3 w1 W.heap.size (fun _ => True) v1 P) (hb : Below W.heap.size W w1) (hfr : ∀ i, W.heap.size ≤ i → ok i) : impl_stay.Aft base W (w1.setCell ⟨bb, 0, none⟩ v1) ok bb vp P P := by
  have hlt := blk_lt hv
  have hf : ∀ i, i ≠ bb → (w1.setCell ⟨bb, 0, none⟩ v1).heap[i]? = w1.heap[i]? := fun i hi => Below.heap_setCell w1 ⟨bb, 0, none⟩ v1 i hi
  have hne := own_ne ho hv (by decide)
  refine ⟨hb.os, hb.tape, hb.output, by simpa [World.setCell] using hb.size, fun i hi n1 _ => (hf i n1).trans (hb.block i hi), own_move ho (fun i hi => (hf i (fun q => hne (by rw [← q]; exact hi.symm))).trans (hb.block i (own_lt ho i hi))), v1, ?_, ?_⟩
  · have := blk_set ((hb.block bb hlt).trans hv) 0 v1
    simpa using this
  · refine Kd.R_lower (Kd.R_mono (Kd.R_step (Kd.R_bound h1) (fun i hi _ => hf i (by have := hi.2.1; omega))) (fun i hi => hfr i hi.2.1)) hbase
/-- What the next search is handed. -/
theorem impl_stay.next {w W wr Wb W2 : World} {ok : Nat → Prop} {bo bb be g2 cap2 p kk : Nat} {l : List Int} {vp vo ve : Value} {P B1 : List Int} {tyo tye : TypeId} (h : impl_stay.Aft w.heap.size W wr ok bb vp P B1) (hn : P.length = p) (hpk : p ≤ kk) (hkl : kk < l.length)
    (hBel : Below w.heap.size w W) (hb : w.heap.size ≤ bb) (hbb : bb < W.heap.size) (hbt : some bb ≠ vp.ownBlock) (hbo : W.heap[bo]? = some (.cells #[vo] tyo (0, 0))) (hbe : W.heap[be]? = some (.cells #[ve] tye (0, 0))) (n1 : bo ≠ bb) (n2 : be ≠ bb) (noP : some bo ≠ vp.ownBlock) (neP : some be ≠ vp.ownBlock)
    (hfr : ∀ i, W.heap.size ≤ i → ok i) (hbox : wr.grownBy Wb none)
    (hown2 : W2.ownsRow w.heap.size 3 1 (.slice (some ⟨g2, 0, none⟩) (p + 1) cap2) (p + 1) (nums .i64 P ++ [.int .i64 (kk : Int)])) (hgr2 : Wb.grownBy W2 vp.ownBlock) (hlt2 : g2 < W2.heap.size) (hcase2 : vp = .slice (some ⟨g2, 0, none⟩) p cap2 ∨ g2 = Wb.heap.size ∧ Wb.grownBy W2 none) (hok : ∀ i, ok i → some i ≠ vp.ownBlock) :
    ∃ vb, (P ++ [(kk : Int)]).length = p + 1 ∧ impl_stay.At l (kk + 1) (rd l (kk : Int)) (P ++ [(kk : Int)]) ∧ Below w.heap.size w W2 ∧ W2.heap[bo]? = some (.cells #[vo] tyo (0, 0)) ∧ W2.heap[be]? = some (.cells #[ve] tye (0, 0)) ∧ W2.heap[bb]? = some (.cells #[vb] 22 (0, 0)) ∧
      W2.ownsRow w.heap.size 3 1 (.slice (some ⟨g2, 0, none⟩) (p + 1) cap2) (P ++ [(kk : Int)]).length (nums .i64 (P ++ [(kk : Int)])) ∧ Kd.R (Kd.int .i64) 3 W2 w.heap.size (fun i => ok i ∧ i ≠ g2) vb B1 ∧ (∀ i, W2.heap.size ≤ i → ok i ∧ i ≠ g2) ∧ (∀ i, ok i ∧ i ≠ g2 → some i ≠ (Value.slice (some ⟨g2, 0, none⟩) (p + 1) cap2).ownBlock) := by
  obtain ⟨vb, hvb, hR⟩ := h.best
  have s1 := h.size
  have s2 := hbox.size
  have s3 := hgr2.size
  have mv : ∀ {i : Nat} {o : Obj}, W.heap[i]? = some o → i ≠ bb → some i ≠ vp.ownBlock → W2.heap[i]? = some o := fun {i o} hi h1 h2 => by
    have hlt := blk_lt hi
    rw [hgr2.block i (by omega) h2, hbox.block i (by omega) (by simp)]
    exact h.keeps hi h1 h2
  have hl : (P ++ [(kk : Int)]).length = p + 1 := by rw [List.length_append, List.length_singleton, hn]
  refine ⟨vb, hl, .inr ⟨P, kk, rfl, hkl, rfl, rfl⟩, ?_, mv hbo n1 noP, mv hbe n2 neP, ?_, ?_, ?_, ?_, ?_⟩
  · exact ((h.below hBel hb).grown hbox (by have := hBel.size; omega) (fun k hk => by cases hk)).grown hgr2 (by have := hBel.size; omega) (fun k hk => own_base h.own k hk)
  · rw [hgr2.block bb (by omega) hbt, hbox.block bb (by omega) (by simp)]
    exact hvb
  · rw [hl, nums_append]
    exact hown2
  · have hR2 := Kd.R_bound hR
    refine Kd.R_mono (Kd.R_step hR2 (fun i hi _ => ?_)) (fun i hi => ⟨hi.1, ?_⟩)
    · rw [hgr2.block i (by have := hi.2.2.1; omega) (hok i hi.1), hbox.block i hi.2.2.1 (by simp)]
    · rcases hcase2 with e | ⟨e, _⟩
      · intro q
        exact hok i hi.1 (by rw [e, q]; rfl)
      · have := hi.2.2.1
        omega
  · exact fun i hi => ⟨hfr i (by omega), by omega⟩
  · rintro i ⟨_, hi⟩ q
    exact hi (by simpa [Value.ownBlock] using q)
theorem impl_stay.boxed (w : World) (o : Obj) : w.grownBy (w.alloc o).drew none := ⟨rfl, rfl, rfl, by simp, fun k hk _ => (World.grownBy_alloc w o none).block k hk (by simp)⟩
theorem impl_stay.i3 : ∃ i, Try.prog.info? 3 = some i ∧ i.zero = some (.int .i64 0) ∧ i.size = 1 ∧ i.bytes = 8 := by
  obtain ⟨i, h, e⟩ := Option.map_eq_some_iff.1 info3
  simp only [Prod.mk.injEq] at e
  exact ⟨i, h, e.1, e.2.1, e.2.2⟩
set_option maxHeartbeats 8000000 in
set_option maxRecDepth 100000 in
theorem impl_stay.ext {w : World} (A0 : Option Addr) (c0 : Nat) (l : List Int) (hr0 : Kd.C (Kd.int .i64) w A0 l.length l) (hc0 : l.length ≤ c0) (h8 : l.length ≤ 8) (bo bb be : Nat) (ho : w.heap.size ≤ bo) (hb : w.heap.size ≤ bb) (he : w.heap.size ≤ be) (n1 : bo ≠ bb) (n2 : be ≠ bb) :
    ∀ (m k : Nat) (v : Int) (P B : List Int) (vp vb : Value) (W : World) (ok : Nat → Prop), l.length < m + k → k ≤ l.length → P.length ≤ k → impl_stay.At l k v P → Below w.heap.size w W →
      W.heap[bo]? = some (.cells #[.slice A0 l.length c0] 22 (0, 0)) → W.heap[be]? = some (.cells #[.func (.func 41) #[] #[.pointer (some ⟨bb, 0, none⟩), .pointer (some ⟨bo, 0, none⟩), .pointer (some ⟨be, 0, none⟩)]] 36 (0, 0)) →
      W.heap[bb]? = some (.cells #[vb] 22 (0, 0)) → W.ownsRow w.heap.size 3 1 vp P.length (nums .i64 P) → Kd.R (Kd.int .i64) 3 W w.heap.size ok vb B → (∀ i, W.heap.size ≤ i → ok i) → (∀ i, ok i → some i ≠ vp.ownBlock) →
      Calls Try.prog 41 #[vp, .pointer (some ⟨bb, 0, none⟩), .pointer (some ⟨bo, 0, none⟩), .pointer (some ⟨be, 0, none⟩)] W fun e w' => e = .returned (.tuple #[]) ∧
        impl_stay.Aft w.heap.size W w' ok bb vp P (impl_stay.lp l (l.length - k) k v P (impl_stay.up B P)) := by
  intro m
  induction m with
  | zero => intro k v P B vp vb W ok hm hk; omega
  | succ m ih =>
    intro k v P B vp vb W ok hm hk hPk hAt hBel hbo hbe hbb hown hbest hfr hok
    have HIH := Aside0.mk ih
    obtain ⟨i0, hi0, hz0, hz1, hz2⟩ := impl_stay.i3
    have HI0 := Aside0.mk hi0
    have HZ0 := Aside0.mk hz0
    have HZ1 := Aside0.mk hz1
    have HZ2 := Aside0.mk hz2
    clear hi0 hz0 hz1 hz2
    clear ih
    obtain ⟨A, c, rfl⟩ := own_slice hown
    obtain ⟨Ab, cb, rfl⟩ := Kd.R_slice hbest
    obtain ⟨cbo, fbo⟩ := impl_stay.C_box hbo
    obtain ⟨cbb, fbb⟩ := impl_stay.C_box hbb
    obtain ⟨cbe, fbe⟩ := impl_stay.C_box hbe
    have HO := Aside0.mk hown
    have HB := Aside0.mk hbest
    have HBB := Aside0.mk hbb
    have HBO := Aside0.mk hbo
    have HBE := Aside0.mk hbe
    have HF := Aside0.mk hfr
    have HK := Aside0.mk hok
    have HAt := Aside0.mk hAt
    clear hown hbest hbb hbo hbe hfr hok hAt
    have hPc : P.length ≤ c := by
      rcases HO.out.2 with ⟨e0, e1⟩ | ⟨g', cap', cur, e0, _, _, h1, _⟩
      · injection e0 with _ _ e2
        omega
      · injection e0 with _ _ e2
        omega
    have hCP : Kd.C (Kd.int .i64) W A P.length P := by
      obtain ⟨A', c', e0, hr⟩ := own_reads HO.out
      injection e0 with e1 _ _
      subst e1
      exact Kd.C_of_reads (d := (0 : Int)) (h1 := fun _ => rfl) hr
    have nbP := Aside0.mk (own_ne HO.out HBB.out (by decide))
    have noP := Aside0.mk (own_ne HO.out HBO.out (by decide))
    have neP := Aside0.mk (own_ne HO.out HBE.out (by decide))
    have HCP := Aside0.mk hCP
    have HPC := Aside0.mk hPc
    have HBel := Aside0.mk hBel
    have hBelS := hBel.size
    clear hCP hPc hBel
    have HCL := Aside0.mk (slices_Clone_int_int.calls A c P P W HCP.out HPC.out (by unfold slices_Clone_int_int.f; rw [if_pos (by omega)]))
    obtain ⟨n, hn⟩ : ∃ n, P.length = n := ⟨_, rfl⟩
    obtain ⟨nb, hnb⟩ : ∃ nb, B.length = nb := ⟨_, rfl⟩
    have hup : impl_stay.up B P = if nb < n then P else B := by unfold impl_stay.up; rw [hn, hnb]
    rw [hup]
    have n8 : n ≤ 8 := by omega
    rw [hn] at HO HCP HPC HCL HK nbP noP neP ⊢
    rw [hnb] at HB HBB cbb
    have HN := Aside0.mk hn
    have HNB := Aside0.mk hnb
    clear hn hnb hup
    rcases HAt.out with ⟨rfl, rfl, rfl⟩ | ⟨P0, j, hP, hj, rfl, rfl⟩
    · obtain rfl : n = 0 := by have := HN.out; simpa using this.symm
      have HB0 := Aside0.mk hr0
      have d1 : decide ((nb : Int) < 0) = false := decide_eq_false (by omega)
      rw [if_neg (by omega)]
      generalize hPP : ([] : List Int) = P at *
      clear hPP
      have HA : Aside0 (impl_stay.Aft w.heap.size W W ok bb (.slice A 0 c) P B) := ⟨impl_stay.Aft.here (by rw [HN.out]; exact HO.out) HBB.out HB.out 0⟩
      go_enter Try.func41, Try.ntmps41
      go_wp2_with fail
      clear cbb fbb cbo fbo cbe fbe
      obtain ⟨R, hR⟩ : ∃ R, impl_stay.lp l (l.length - (0)) (0) (-1) P B = R := ⟨_, rfl⟩
      have HR := Aside0.mk hR
      have HRE := Aside0.mk hR
      clear hR
      go_wp2
      go_loopg [8] l.length (fun gg s8 wr => ∃ (kk : Nat) (B1 : List Int), kk ≤ l.length ∧ 0 ≤ kk ∧ l.length - kk ≤ gg ∧ s8 = .int .i64 kk ∧ Aside0 (impl_stay.Aft w.heap.size W wr ok bb (.slice A 0 c) P B1) ∧ Aside0 (impl_stay.lp l (l.length - kk) kk (-1) P B1 = R))
      case atStart => exact ⟨0, B, by omega, by omega, by omega, by go_num, HA, HR⟩
      case round =>
        obtain ⟨kk, B1, hkk, hjk, hgg, rfl, HA1, HR1⟩ := hrel
        clear HA HR
        obtain ⟨cbo, fbo⟩ := impl_stay.C_box (HA1.out.keeps HBO.out n1 noP.out)
        by_cases hlt : kk < l.length
        · have hltz : (kk : Int) < (l.length : Int) := by omega
          obtain ⟨ad1, e1, hck⟩ := impl_stay.cellC (Kd.C_below HB0.out (HA1.out.below HBel.out hb)) kk hlt
          subst e1
          have hsub : l.length - kk = (l.length - (kk + 1)) + 1 := by omega
          rw [hsub] at HR1
          clear hsub
          by_cases c2 : (-1) < rd l (kk : Int)
          · have d2 : decide ((-1) < rd l (kk : Int)) = true := decide_eq_true c2
            have HR2 : Aside0 (impl_stay.lp l (l.length - (kk + 1)) (kk + 1) (-1) P (impl_stay.lp l (l.length - (kk + 1)) (kk + 1) (rd l (kk : Int)) (P ++ [(kk : Int)]) (impl_stay.up B1 (P ++ [(kk : Int)]))) = R) := ⟨by have h1 := HR1.out; rw [impl_stay.lp, if_pos c2] at h1; exact h1⟩
            clear HR1
            go_wp2_with fail
            have hbe1 := (impl_stay.C_box (HA1.out.keeps HBE.out n2 neP.out)).1
            have hbs : w.heap.size ≤ wr.heap.size := by have := HA1.out.size; omega
            have HOW : wr.ownsRow w.heap.size 3 1 (.slice A 0 c) 0 (nums .i64 P) := by have h1 := HA1.out.own; rw [HN.out] at h1; exact h1
            have HOW1 := Aside0.mk HOW
            clear HOW
            go_region_held3 (fun w' => w'.cell? ⟨be, 0, none⟩ = some (.func (.func 41) #[] #[.pointer (some ⟨bb, 0, none⟩), .pointer (some ⟨bo, 0, none⟩), .pointer (some ⟨be, 0, none⟩)]))
              (first | exact hcb3 | exact hcb2 | go_keep)
              (first
                | (refine impl_stay.two_step _ (by rfl) _ _ _ (by rfl) w.heap.size 3 i0 _ 8 Try.underlying22 HI0.out HZ0.out HZ1.out HZ2.out rfl (.slice A 0 c) 0 (nums .i64 P) (by rfl) ((HOW1.out.alloc _).drew) ⟨wr.heap.size, 0, none⟩ 1 (.int .i64 (kk : Int)) (by rfl) (by simp) rfl (by unfold maxLen; omega) (by omega) (by simp; omega) ?_
                   intro g2 cap2 W2 hown2 hgr2 hlt2 hcase2
                   obtain ⟨vb2, hl2, hAt2, hBel2, hbo2, hbe2, hbb2, hown3, hR2, hfr2, hok2⟩ := impl_stay.next (kk := kk) (l := l) (g2 := g2) (cap2 := cap2) (W2 := W2) HA1.out HN.out (by omega) hlt HBel.out hb (blk_lt HBB.out) nbP.out HBO.out HBE.out n1 n2 noP.out neP.out HF.out (impl_stay.boxed wr (.cells #[.int .i64 (kk : Int)] 3)) hown2 hgr2 hlt2 hcase2 HK.out
                   have hne2 := own_ne hown3 hbe2 (by decide)
                   have HKE := Aside0.mk (fun (w' : World) (B2 : List Int) (h2 : impl_stay.Aft w.heap.size W2 w' (fun i => ok i ∧ i ≠ g2) bb (.slice (some ⟨g2, 0, none⟩) (0 + 1) cap2) (P ++ [(kk : Int)]) B2) => (impl_stay.C_box (h2.keeps hbe2 n2 hne2)).1)
                   have HST := Aside0.mk (fun (w' : World) (B2 : List Int) (h2 : impl_stay.Aft w.heap.size W2 w' (fun i => ok i ∧ i ≠ g2) bb (.slice (some ⟨g2, 0, none⟩) (0 + 1) cap2) (P ++ [(kk : Int)]) B2) => (impl_stay.Aft.step (w' := w') (B2 := B2) (k := kk) (g := g2) (cap := cap2) HA1.out (impl_stay.boxed wr (.cells #[.int .i64 (kk : Int)] 3)) (by rw [HN.out]; exact hown2) hgr2 (by rw [HN.out]; exact hcase2) (by rw [HN.out]; exact h2) (blk_lt HBB.out) nbP.out HF.out : impl_stay.Aft w.heap.size W w' ok bb (.slice A 0 c) P B2))
                   have HC := Aside0.mk (HIH.out (kk + 1) (rd l (kk : Int)) (P ++ [(kk : Int)]) B1 (.slice (some ⟨g2, 0, none⟩) (0 + 1) cap2) vb2 W2 (fun i => ok i ∧ i ≠ g2) (by omega) (by omega) (by rw [hl2]; omega) hAt2 hBel2 hbo2 hbe2 hbb2 hown3 hR2 hfr2 hok2)
                   have hcb2 := (impl_stay.C_box hbe2).1
                   clear hown2 hgr2 hlt2 hcase2 hl2 hAt2 hBel2 hbo2 hbe2 hbb2 hown3 hR2 hfr2 hok2 hne2)
                | (go_at_call 41
                   refine HC.out.mono ?_
                   rintro e w' ⟨rfl, hA2⟩
                   have hcb3 := HKE.out _ _ hA2
                   have HA2 := Aside0.mk (HST.out _ _ hA2)
                   clear hA2))
            clear hcb2 hcb3 HKE HST HC hbe1 hck cbo fbo hbs
            go_wp2
            go_roundg (l.length - (kk + 1))
            case measure => omega
            case rel => exact ⟨kk + 1, _, by omega, by omega, by omega, by go_num, HA2, HR2⟩
          · have d2 : decide ((-1) < rd l (kk : Int)) = false := decide_eq_false c2
            have HR2 : Aside0 (impl_stay.lp l (l.length - (kk + 1)) (kk + 1) (-1) P B1 = R) := ⟨by have h1 := HR1.out; rw [impl_stay.lp, if_neg c2] at h1; exact h1⟩
            clear HR1
            go_wp2
            go_roundg (l.length - (kk + 1))
            case measure => omega
            case rel => exact ⟨kk + 1, B1, by omega, by omega, by omega, by go_num, HA1, HR2⟩
        · have hltz : ¬ (kk : Int) < (l.length : Int) := by omega
          obtain rfl : kk = l.length := by omega
          have hR1 : B1 = R := by have h1 := HR1.out; rw [Nat.sub_self] at h1; exact h1
          have HAR : Aside0 (impl_stay.Aft w.heap.size W wr ok bb (.slice A 0 c) P R) := by rw [← hR1]; exact HA1
          clear hR1 HR1 HA1
          go_wp2
          go_end0
          exact ⟨rfl, by first | (rw [HRE.out]; exact HAR.out) | (have h1 := HRE.out; rw [Nat.sub_zero] at h1; rw [h1]; exact HAR.out)⟩
    · obtain ⟨p, rfl⟩ : ∃ p, n = p + 1 := ⟨P0.length, by rw [← HN.out, hP]; simp⟩
      have HP := Aside0.mk hP
      clear hP
      obtain ⟨g, cap, e0, hg1, hg2⟩ := HO.out.form (by omega)
      injection e0 with e1 _ e2
      subst e1 e2
      have HB0 := Aside0.mk hr0
      have HN1 : Aside0 (p + 1 ≤ l.length) := ⟨by have := HN.out; omega⟩
      have hpj : p ≤ j := by have := HN.out; omega
      by_cases c1 : nb < p + 1
      · have d1 : decide ((nb : Int) < (p : Int) + 1) = true := decide_eq_true (by omega)
        rw [if_pos c1]
        go_enter Try.func41, Try.ntmps41
        go_wp2_with (go_at_call 32; refine HCL.out.mono ?_; rintro e w1 ⟨v1, rfl, ho1, hb1⟩; obtain ⟨g1, cap1, rfl, _, _, _⟩ := Kd.R_form ho1 (by rw [HN.out]; omega); obtain ⟨cbb1, fbb1⟩ := impl_stay.C_box ((hb1.block bb (blk_lt HBB.out)).trans HBB.out); have HA := Aside0.mk (impl_stay.Aft.taken (ok := ok) hBelS (by rw [HN.out]; exact HO.out) HBB.out ho1 hb1 HF.out); clear ho1 hb1)
        generalize w1.setCell ⟨bb, 0, none⟩ (.slice (some ⟨g1, 0, none⟩) P.length cap1) = W3 at HA ⊢
        clear cbb1 fbb1 cbb fbb cbo fbo cbe fbe
        have hpl : W3.cell? ⟨g, p, none⟩ = some (.int .i64 (j : Int)) := by
          have h1 := HA.out.own
          rw [HN.out] at h1
          have h2 := (own_at h1 (p : Int) (by omega) (by omega)).1
          rw [Int.toNat_natCast] at h2
          rw [h2, HP.out]
          have h3 := HN.out
          rw [HP.out, List.length_append, List.length_singleton] at h3
          congr 2
          unfold rd
          rw [Int.toNat_natCast, List.getD_eq_getElem?_getD, List.getElem?_append_right (by omega), show p - P0.length = 0 by omega]
          rfl
        obtain ⟨cbo, fbo⟩ := impl_stay.C_box (HA.out.keeps HBO.out n1 noP.out)
        obtain ⟨ad0, rfl, hcj⟩ := impl_stay.cellC (Kd.C_below HB0.out (HA.out.below HBel.out hb)) j hj
        have hj0 : (0 : Int) ≤ (j : Int) := Int.natCast_nonneg _
        have hj1 : (j : Int) < (l.length : Int) := by omega
        have hp0 : (0 : Int) ≤ (p : Int) := Int.natCast_nonneg _
        have hp1 : (p : Int) < (p : Int) + 1 := by omega
        go_quiet (fail)
        replace HA := Aside0.mk (HA.out.drewN nq)
        clear hcj hpl cbo fbo
        generalize W3.drewN nq = W4 at HA ⊢
        obtain ⟨R, hR⟩ : ∃ R, impl_stay.lp l (l.length - (j + 1)) (j + 1) (rd l (j : Int)) P P = R := ⟨_, rfl⟩
        have HR := Aside0.mk hR
        have HRE := Aside0.mk hR
        clear hR
        go_wp2
        go_loopg [8] l.length (fun gg s8 wr => ∃ (kk : Nat) (B1 : List Int), kk ≤ l.length ∧ j + 1 ≤ kk ∧ l.length - kk ≤ gg ∧ s8 = .int .i64 kk ∧ Aside0 (impl_stay.Aft w.heap.size W wr ok bb (.slice (some ⟨g, 0, none⟩) (p + 1) c) P B1) ∧ Aside0 (impl_stay.lp l (l.length - kk) kk (rd l (j : Int)) P B1 = R))
        case atStart => exact ⟨j + 1, P, by omega, by omega, by omega, by go_num, HA, HR⟩
        case round =>
          obtain ⟨kk, B1, hkk, hjk, hgg, rfl, HA1, HR1⟩ := hrel
          clear HA HR
          obtain ⟨cbo, fbo⟩ := impl_stay.C_box (HA1.out.keeps HBO.out n1 noP.out)
          by_cases hlt : kk < l.length
          · have hltz : (kk : Int) < (l.length : Int) := by omega
            obtain ⟨ad1, e1, hck⟩ := impl_stay.cellC (Kd.C_below HB0.out (HA1.out.below HBel.out hb)) kk hlt
            injection e1 with e1
            subst e1
            have hsub : l.length - kk = (l.length - (kk + 1)) + 1 := by omega
            rw [hsub] at HR1
            clear hsub
            by_cases c2 : (rd l (j : Int)) < rd l (kk : Int)
            · have d2 : decide ((rd l (j : Int)) < rd l (kk : Int)) = true := decide_eq_true c2
              have HR2 : Aside0 (impl_stay.lp l (l.length - (kk + 1)) (kk + 1) (rd l (j : Int)) P (impl_stay.lp l (l.length - (kk + 1)) (kk + 1) (rd l (kk : Int)) (P ++ [(kk : Int)]) (impl_stay.up B1 (P ++ [(kk : Int)]))) = R) := ⟨by have h1 := HR1.out; rw [impl_stay.lp, if_pos c2] at h1; exact h1⟩
              clear HR1
              go_wp2_with fail
              have hbe1 := (impl_stay.C_box (HA1.out.keeps HBE.out n2 neP.out)).1
              have hbs : w.heap.size ≤ wr.heap.size := by have := HA1.out.size; omega
              have HOW : wr.ownsRow w.heap.size 3 1 (.slice (some ⟨g, 0, none⟩) (p + 1) c) (p + 1) (nums .i64 P) := by have h1 := HA1.out.own; rw [HN.out] at h1; exact h1
              have HOW1 := Aside0.mk HOW
              clear HOW
              go_region_held3 (fun w' => w'.cell? ⟨be, 0, none⟩ = some (.func (.func 41) #[] #[.pointer (some ⟨bb, 0, none⟩), .pointer (some ⟨bo, 0, none⟩), .pointer (some ⟨be, 0, none⟩)]))
                (first | exact hcb3 | exact hcb2 | go_keep)
                (first
                  | (refine impl_stay.two_step _ (by rfl) _ _ _ (by rfl) w.heap.size 3 i0 _ 8 Try.underlying22 HI0.out HZ0.out HZ1.out HZ2.out rfl (.slice (some ⟨g, 0, none⟩) (p + 1) c) (p + 1) (nums .i64 P) (by rfl) ((HOW1.out.alloc _).drew) ⟨wr.heap.size, 0, none⟩ 1 (.int .i64 (kk : Int)) (by rfl) (by simp) rfl (by unfold maxLen; omega) (by omega) (by simp; omega) ?_
                     intro g2 cap2 W2 hown2 hgr2 hlt2 hcase2
                     obtain ⟨vb2, hl2, hAt2, hBel2, hbo2, hbe2, hbb2, hown3, hR2, hfr2, hok2⟩ := impl_stay.next (kk := kk) (l := l) (g2 := g2) (cap2 := cap2) (W2 := W2) HA1.out HN.out (by omega) hlt HBel.out hb (blk_lt HBB.out) nbP.out HBO.out HBE.out n1 n2 noP.out neP.out HF.out (impl_stay.boxed wr (.cells #[.int .i64 (kk : Int)] 3)) hown2 hgr2 hlt2 hcase2 HK.out
                     have hne2 := own_ne hown3 hbe2 (by decide)
                     have HKE := Aside0.mk (fun (w' : World) (B2 : List Int) (h2 : impl_stay.Aft w.heap.size W2 w' (fun i => ok i ∧ i ≠ g2) bb (.slice (some ⟨g2, 0, none⟩) (p + 1 + 1) cap2) (P ++ [(kk : Int)]) B2) => (impl_stay.C_box (h2.keeps hbe2 n2 hne2)).1)
                     have HST := Aside0.mk (fun (w' : World) (B2 : List Int) (h2 : impl_stay.Aft w.heap.size W2 w' (fun i => ok i ∧ i ≠ g2) bb (.slice (some ⟨g2, 0, none⟩) (p + 1 + 1) cap2) (P ++ [(kk : Int)]) B2) => (impl_stay.Aft.step (w' := w') (B2 := B2) (k := kk) (g := g2) (cap := cap2) HA1.out (impl_stay.boxed wr (.cells #[.int .i64 (kk : Int)] 3)) (by rw [HN.out]; exact hown2) hgr2 (by rw [HN.out]; exact hcase2) (by rw [HN.out]; exact h2) (blk_lt HBB.out) nbP.out HF.out : impl_stay.Aft w.heap.size W w' ok bb (.slice (some ⟨g, 0, none⟩) (p + 1) c) P B2))
                     have HC := Aside0.mk (HIH.out (kk + 1) (rd l (kk : Int)) (P ++ [(kk : Int)]) B1 (.slice (some ⟨g2, 0, none⟩) (p + 1 + 1) cap2) vb2 W2 (fun i => ok i ∧ i ≠ g2) (by omega) (by omega) (by rw [hl2]; omega) hAt2 hBel2 hbo2 hbe2 hbb2 hown3 hR2 hfr2 hok2)
                     have hcb2 := (impl_stay.C_box hbe2).1
                     clear hown2 hgr2 hlt2 hcase2 hl2 hAt2 hBel2 hbo2 hbe2 hbb2 hown3 hR2 hfr2 hok2 hne2)
                  | (go_at_call 41
                     refine HC.out.mono ?_
                     rintro e w' ⟨rfl, hA2⟩
                     have hcb3 := HKE.out _ _ hA2
                     have HA2 := Aside0.mk (HST.out _ _ hA2)
                     clear hA2))
              clear hcb2 hcb3 HKE HST HC hbe1 hck cbo fbo hbs
              go_wp2
              go_roundg (l.length - (kk + 1))
              case measure => omega
              case rel => exact ⟨kk + 1, _, by omega, by omega, by omega, by go_num, HA2, HR2⟩
            · have d2 : decide ((rd l (j : Int)) < rd l (kk : Int)) = false := decide_eq_false c2
              have HR2 : Aside0 (impl_stay.lp l (l.length - (kk + 1)) (kk + 1) (rd l (j : Int)) P B1 = R) := ⟨by have h1 := HR1.out; rw [impl_stay.lp, if_neg c2] at h1; exact h1⟩
              clear HR1
              go_wp2
              go_roundg (l.length - (kk + 1))
              case measure => omega
              case rel => exact ⟨kk + 1, B1, by omega, by omega, by omega, by go_num, HA1, HR2⟩
          · have hltz : ¬ (kk : Int) < (l.length : Int) := by omega
            obtain rfl : kk = l.length := by omega
            have hR1 : B1 = R := by have h1 := HR1.out; rw [Nat.sub_self] at h1; exact h1
            have HAR : Aside0 (impl_stay.Aft w.heap.size W wr ok bb (.slice (some ⟨g, 0, none⟩) (p + 1) c) P R) := by rw [← hR1]; exact HA1
            clear hR1 HR1 HA1
            go_wp2
            go_end0
            exact ⟨rfl, by rw [HRE.out]; exact HAR.out⟩
      · have d1 : decide ((nb : Int) < (p : Int) + 1) = false := decide_eq_false (by omega)
        rw [if_neg c1]
        have HA : Aside0 (impl_stay.Aft w.heap.size W W ok bb (.slice (some ⟨g, 0, none⟩) (p + 1) c) P B) := ⟨impl_stay.Aft.here (by rw [HN.out]; exact HO.out) HBB.out HB.out 0⟩
        go_enter Try.func41, Try.ntmps41
        go_wp2_with fail
        clear cbb fbb cbo fbo cbe fbe
        have hpl : W.cell? ⟨g, p, none⟩ = some (.int .i64 (j : Int)) := by
          have h1 := HA.out.own
          rw [HN.out] at h1
          have h2 := (own_at h1 (p : Int) (by omega) (by omega)).1
          rw [Int.toNat_natCast] at h2
          rw [h2, HP.out]
          have h3 := HN.out
          rw [HP.out, List.length_append, List.length_singleton] at h3
          congr 2
          unfold rd
          rw [Int.toNat_natCast, List.getD_eq_getElem?_getD, List.getElem?_append_right (by omega), show p - P0.length = 0 by omega]
          rfl
        obtain ⟨cbo, fbo⟩ := impl_stay.C_box (HA.out.keeps HBO.out n1 noP.out)
        obtain ⟨ad0, rfl, hcj⟩ := impl_stay.cellC (Kd.C_below HB0.out (HA.out.below HBel.out hb)) j hj
        have hj0 : (0 : Int) ≤ (j : Int) := Int.natCast_nonneg _
        have hj1 : (j : Int) < (l.length : Int) := by omega
        have hp0 : (0 : Int) ≤ (p : Int) := Int.natCast_nonneg _
        have hp1 : (p : Int) < (p : Int) + 1 := by omega
        go_quiet (fail)
        replace HA := Aside0.mk (HA.out.drewN nq)
        clear hcj hpl cbo fbo
        generalize W.drewN nq = W4 at HA ⊢
        obtain ⟨R, hR⟩ : ∃ R, impl_stay.lp l (l.length - (j + 1)) (j + 1) (rd l (j : Int)) P B = R := ⟨_, rfl⟩
        have HR := Aside0.mk hR
        have HRE := Aside0.mk hR
        clear hR
        go_wp2
        go_loopg [8] l.length (fun gg s8 wr => ∃ (kk : Nat) (B1 : List Int), kk ≤ l.length ∧ j + 1 ≤ kk ∧ l.length - kk ≤ gg ∧ s8 = .int .i64 kk ∧ Aside0 (impl_stay.Aft w.heap.size W wr ok bb (.slice (some ⟨g, 0, none⟩) (p + 1) c) P B1) ∧ Aside0 (impl_stay.lp l (l.length - kk) kk (rd l (j : Int)) P B1 = R))
        case atStart => exact ⟨j + 1, B, by omega, by omega, by omega, by go_num, HA, HR⟩
        case round =>
          obtain ⟨kk, B1, hkk, hjk, hgg, rfl, HA1, HR1⟩ := hrel
          clear HA HR
          obtain ⟨cbo, fbo⟩ := impl_stay.C_box (HA1.out.keeps HBO.out n1 noP.out)
          by_cases hlt : kk < l.length
          · have hltz : (kk : Int) < (l.length : Int) := by omega
            obtain ⟨ad1, e1, hck⟩ := impl_stay.cellC (Kd.C_below HB0.out (HA1.out.below HBel.out hb)) kk hlt
            injection e1 with e1
            subst e1
            have hsub : l.length - kk = (l.length - (kk + 1)) + 1 := by omega
            rw [hsub] at HR1
            clear hsub
            by_cases c2 : (rd l (j : Int)) < rd l (kk : Int)
            · have d2 : decide ((rd l (j : Int)) < rd l (kk : Int)) = true := decide_eq_true c2
              have HR2 : Aside0 (impl_stay.lp l (l.length - (kk + 1)) (kk + 1) (rd l (j : Int)) P (impl_stay.lp l (l.length - (kk + 1)) (kk + 1) (rd l (kk : Int)) (P ++ [(kk : Int)]) (impl_stay.up B1 (P ++ [(kk : Int)]))) = R) := ⟨by have h1 := HR1.out; rw [impl_stay.lp, if_pos c2] at h1; exact h1⟩
              clear HR1
              go_wp2_with fail
              have hbe1 := (impl_stay.C_box (HA1.out.keeps HBE.out n2 neP.out)).1
              have hbs : w.heap.size ≤ wr.heap.size := by have := HA1.out.size; omega
              have HOW : wr.ownsRow w.heap.size 3 1 (.slice (some ⟨g, 0, none⟩) (p + 1) c) (p + 1) (nums .i64 P) := by have h1 := HA1.out.own; rw [HN.out] at h1; exact h1
              have HOW1 := Aside0.mk HOW
              clear HOW
              go_region_held3 (fun w' => w'.cell? ⟨be, 0, none⟩ = some (.func (.func 41) #[] #[.pointer (some ⟨bb, 0, none⟩), .pointer (some ⟨bo, 0, none⟩), .pointer (some ⟨be, 0, none⟩)]))
                (first | exact hcb3 | exact hcb2 | go_keep)
                (first
                  | (refine impl_stay.two_step _ (by rfl) _ _ _ (by rfl) w.heap.size 3 i0 _ 8 Try.underlying22 HI0.out HZ0.out HZ1.out HZ2.out rfl (.slice (some ⟨g, 0, none⟩) (p + 1) c) (p + 1) (nums .i64 P) (by rfl) ((HOW1.out.alloc _).drew) ⟨wr.heap.size, 0, none⟩ 1 (.int .i64 (kk : Int)) (by rfl) (by simp) rfl (by unfold maxLen; omega) (by omega) (by simp; omega) ?_
                     intro g2 cap2 W2 hown2 hgr2 hlt2 hcase2
                     obtain ⟨vb2, hl2, hAt2, hBel2, hbo2, hbe2, hbb2, hown3, hR2, hfr2, hok2⟩ := impl_stay.next (kk := kk) (l := l) (g2 := g2) (cap2 := cap2) (W2 := W2) HA1.out HN.out (by omega) hlt HBel.out hb (blk_lt HBB.out) nbP.out HBO.out HBE.out n1 n2 noP.out neP.out HF.out (impl_stay.boxed wr (.cells #[.int .i64 (kk : Int)] 3)) hown2 hgr2 hlt2 hcase2 HK.out
                     have hne2 := own_ne hown3 hbe2 (by decide)
                     have HKE := Aside0.mk (fun (w' : World) (B2 : List Int) (h2 : impl_stay.Aft w.heap.size W2 w' (fun i => ok i ∧ i ≠ g2) bb (.slice (some ⟨g2, 0, none⟩) (p + 1 + 1) cap2) (P ++ [(kk : Int)]) B2) => (impl_stay.C_box (h2.keeps hbe2 n2 hne2)).1)
                     have HST := Aside0.mk (fun (w' : World) (B2 : List Int) (h2 : impl_stay.Aft w.heap.size W2 w' (fun i => ok i ∧ i ≠ g2) bb (.slice (some ⟨g2, 0, none⟩) (p + 1 + 1) cap2) (P ++ [(kk : Int)]) B2) => (impl_stay.Aft.step (w' := w') (B2 := B2) (k := kk) (g := g2) (cap := cap2) HA1.out (impl_stay.boxed wr (.cells #[.int .i64 (kk : Int)] 3)) (by rw [HN.out]; exact hown2) hgr2 (by rw [HN.out]; exact hcase2) (by rw [HN.out]; exact h2) (blk_lt HBB.out) nbP.out HF.out : impl_stay.Aft w.heap.size W w' ok bb (.slice (some ⟨g, 0, none⟩) (p + 1) c) P B2))
                     have HC := Aside0.mk (HIH.out (kk + 1) (rd l (kk : Int)) (P ++ [(kk : Int)]) B1 (.slice (some ⟨g2, 0, none⟩) (p + 1 + 1) cap2) vb2 W2 (fun i => ok i ∧ i ≠ g2) (by omega) (by omega) (by rw [hl2]; omega) hAt2 hBel2 hbo2 hbe2 hbb2 hown3 hR2 hfr2 hok2)
                     have hcb2 := (impl_stay.C_box hbe2).1
                     clear hown2 hgr2 hlt2 hcase2 hl2 hAt2 hBel2 hbo2 hbe2 hbb2 hown3 hR2 hfr2 hok2 hne2)
                  | (go_at_call 41
                     refine HC.out.mono ?_
                     rintro e w' ⟨rfl, hA2⟩
                     have hcb3 := HKE.out _ _ hA2
                     have HA2 := Aside0.mk (HST.out _ _ hA2)
                     clear hA2))
              clear hcb2 hcb3 HKE HST HC hbe1 hck cbo fbo hbs
              go_wp2
              go_roundg (l.length - (kk + 1))
              case measure => omega
              case rel => exact ⟨kk + 1, _, by omega, by omega, by omega, by go_num, HA2, HR2⟩
            · have d2 : decide ((rd l (j : Int)) < rd l (kk : Int)) = false := decide_eq_false c2
              have HR2 : Aside0 (impl_stay.lp l (l.length - (kk + 1)) (kk + 1) (rd l (j : Int)) P B1 = R) := ⟨by have h1 := HR1.out; rw [impl_stay.lp, if_neg c2] at h1; exact h1⟩
              clear HR1
              go_wp2
              go_roundg (l.length - (kk + 1))
              case measure => omega
              case rel => exact ⟨kk + 1, B1, by omega, by omega, by omega, by go_num, HA1, HR2⟩
          · have hltz : ¬ (kk : Int) < (l.length : Int) := by omega
            obtain rfl : kk = l.length := by omega
            have hR1 : B1 = R := by have h1 := HR1.out; rw [Nat.sub_self] at h1; exact h1
            have HAR : Aside0 (impl_stay.Aft w.heap.size W wr ok bb (.slice (some ⟨g, 0, none⟩) (p + 1) c) P R) := by rw [← hR1]; exact HA1
            clear hR1 HR1 HA1
            go_wp2
            go_end0
            exact ⟨rfl, by rw [HRE.out]; exact HAR.out⟩
theorem impl_stay.start (w : World) (o1 : Obj) (u : Value) (f : Value) (W : World) (hW : W = (((w.alloc o1).alloc (.cells #[] 3)).alloc (.cells #[u] 22)).alloc (.cells #[f] 36)) :
    Below w.heap.size w W ∧ W.heap[w.heap.size]? = some o1 ∧ W.heap[w.heap.size + 1 + 1 + 1]? = some (.cells #[f] 36) ∧ W.heap[w.heap.size + 1 + 1]? = some (.cells #[u] 22) ∧ Kd.R (Kd.int .i64) 3 W w.heap.size (fun _ => True) (.slice (some ⟨w.heap.size + 1, 0, none⟩) 0 0) [] := by
  subst hW
  refine ⟨below_alloc (below_alloc (below_alloc (below_alloc (Below.refl _ _) _) _) _) _, ?_, ?_, ?_, ?_⟩
  · (show ((((w.heap.push _).push _).push _).push _)[_]? = _; rw [Array.getElem?_push, if_neg (by simp only [Array.size_push]; omega), Array.getElem?_push, if_neg (by simp only [Array.size_push]; omega), Array.getElem?_push, if_neg (by simp only [Array.size_push]; omega), Array.getElem?_push, if_pos (by simp only [Array.size_push])])
  · (show ((((w.heap.push _).push _).push _).push _)[_]? = _; rw [Array.getElem?_push, if_pos (by simp only [Array.size_push])])
  · (show ((((w.heap.push _).push _).push _).push _)[_]? = _; rw [Array.getElem?_push, if_neg (by simp only [Array.size_push]; omega), Array.getElem?_push, if_pos (by simp only [Array.size_push])])
  · refine ⟨fun _ _ => trivial, [], ⟨by simp, .inr ⟨w.heap.size + 1, 0, #[], rfl, by omega, ?_, Nat.le_refl _, by unfold maxLen; omega, rfl, by simp⟩⟩, Reps.none _ _⟩
    (show ((((w.heap.push _).push _).push _).push _)[_]? = _; rw [Array.getElem?_push, if_neg (by simp only [Array.size_push]; omega), Array.getElem?_push, if_neg (by simp only [Array.size_push]; omega), Array.getElem?_push, if_pos (by simp only [Array.size_push])])
set_option maxHeartbeats 2000000 in
set_option maxRecDepth 100000 in
theorem impl_stay.calls (A0 : Option Addr) (c0 : Nat) (l0 : List Int) (r : List Int) (w : World) (hr0 : Kd.C (Kd.int .i64) w A0 l0.length l0) (hc0 : l0.length ≤ c0) (h : impl_stay.f l0 = some r) :
    Calls Try.prog 34 #[.slice A0 l0.length c0] w fun e w' => ∃ v0_ : Value, e = .returned (v0_) ∧ Kd.R (Kd.int .i64) 3 w' w.heap.size (fun _ => True) v0_ r ∧ Below w.heap.size w w' := by
  unfold impl_stay.f at h
  by_cases h8 : l0.length ≤ 8
  · rw [if_pos h8] at h
    obtain rfl := Option.some.inj h
    clear h
    have HR := Aside0.mk hr0
    have H8 := Aside0.mk h8
    have HC := Aside0.mk hc0
    clear hr0 hc0
    go_enter Try.func34, Try.ntmps34
    go_wp2_with (go_at_call 41; obtain ⟨hB, ho, he, hb, hr⟩ := impl_stay.start w (.cells #[.slice A0 l0.length c0] 22) (.slice (some ⟨w.heap.size + 1, 0, none⟩) 0 0) (.func (.func 41) #[] #[.pointer (some ⟨w.heap.size + 1 + 1, 0, none⟩), .pointer (some ⟨w.heap.size, 0, none⟩), .pointer (some ⟨w.heap.size + 1 + 1 + 1, 0, none⟩)]) _ rfl; refine (impl_stay.ext (w := w) A0 c0 l0 HR.out HC.out H8.out w.heap.size (w.heap.size + 1 + 1) (w.heap.size + 1 + 1 + 1) (by omega) (by omega) (by omega) (by omega) (by omega) (l0.length + 1) 0 (-1) [] [] (.slice none 0 0) (.slice (some ⟨w.heap.size + 1, 0, none⟩) 0 0) _ (fun _ => True) (by omega) (by omega) (Nat.le_refl _) (.inl ⟨rfl, rfl, rfl⟩) hB ho he hb (World.ownsRow_nil _ _ _ _) hr (fun _ _ => trivial) (fun i _ => by simp [Value.ownBlock])).mono ?_; rintro e w' ⟨rfl, hA⟩; obtain ⟨vb, hvb, hR2⟩ := hA.best; have HB2 := Aside0.mk (hA.below hB (by omega)); obtain ⟨cvb, _⟩ := impl_stay.C_box hvb; have HR2 := Aside0.mk hR2; obtain ⟨A2, c2, rfl⟩ := Kd.R_slice hR2; clear hR2 hvb hA hB ho he hb hr)
    go_ret
    exact ⟨_, rfl, HR2.out, HB2.out⟩
  · rw [if_neg h8] at h
    exact absurd h (by simp)

/-! ### impl_FirstStay: function 21 -/
def impl_FirstStay.f (k : Nat) (l0 : List Int) : Option (List Int × Bool) := (impl_IsStanding.f k l0).bind fun t140 => (if t140 = true then ((impl_stay.f l0).bind fun t141 => (some (t141, true))) else (some (([] : List Int), false)))
theorem impl_FirstStay.mono : ∀ a0 k, LeO (impl_FirstStay.f k a0) (impl_FirstStay.f (k + 1) a0) := by
  intro a0 k
  unfold impl_FirstStay.f
  repeat' first
      | (with_reducible exact impl_IsStanding.mono _ _)
      | (with_reducible exact LeO.refl _)
      | (with_reducible exact LeO.none _)
      | (with_reducible refine LeO.ite ?_ ?_)
      | (with_reducible refine LeO.bind ?_ (fun _ => ?_))
      | exact impl_IsStanding.mono _ _
      | exact LeO.none _
      | refine LeO.ite ?_ ?_
      | refine LeO.bind ?_ (fun _ => ?_)
set_option maxHeartbeats 8000000 in
set_option maxRecDepth 100000 in
theorem impl_FirstStay.calls (k : Nat) (A0 : Option Addr) (c0 : Nat) (l0 : List Int) (r1 : List Int) (r2 : Bool) (w : World) (hr0 : Kd.C (Kd.int .i64) w A0 l0.length l0) (hc0 : l0.length ≤ c0) (h : impl_FirstStay.f k l0 = some (r1, r2)) :
    Calls Try.prog 21 #[.slice A0 l0.length c0] w fun e w' => ∃ v0_ : Value, e = .returned (.tuple #[v0_, .bool r2]) ∧ Kd.R (Kd.int .i64) 3 w' w.heap.size (fun _ => True) v0_ r1 ∧ Below w.heap.size w w' := by
  have HR0 := Aside0.mk hr0
  have HC0 := Aside0.mk hc0
  clear hr0 hc0
  have HB := Aside0.mk (Below.refl w.heap.size w)
  have H : ((impl_IsStanding.f k l0).bind fun t140 => (if t140 = true then ((impl_stay.f l0).bind fun t141 => (some (t141, true))) else (some (([] : List Int), false)))) = some (r1, r2) := h
  clear h
  replace H := Option.bind_eq_some_iff.mp H
  obtain ⟨t140, A20, H⟩ := H
  replace H : (if t140 = true then ((impl_stay.f l0).bind fun t141 => (some (t141, true))) else (some (([] : List Int), false))) = some (r1, r2) := H
  have A2 := Aside0.mk A20
  clear A20
  by_cases c3 : t140 = true
  · subst c3
    have H1 : ((impl_stay.f l0).bind fun t141 => (some (t141, true))) = some (r1, r2) := by rw [if_pos rfl] at H; exact H
    clear H
    have H := H1
    clear H1
    replace H := Option.bind_eq_some_iff.mp H
    obtain ⟨t141, A40, H⟩ := H
    replace H : (some (t141, true)) = some (r1, r2) := H
    have A4 := Aside0.mk A40
    clear A40
    simp only [Option.some.injEq, Prod.mk.injEq] at H
    obtain ⟨rfl, rfl⟩ := H
    go_enter Try.func21, Try.ntmps21
    go_wp2_with (first | ((with_reducible refine gate_callee (f := 12) rfl ?_); refine goesL_ (some 5) rfl rfl Try.func12 (by kernel_rfl) rfl #[.slice A0 l0.length c0] rfl (by (try simp only [List.map_toArray, List.map_cons, List.map_nil]); first | done | rfl | (simp only [List.length_drop, List.length_take]; rfl)) ?_; (with_reducible refine (impl_IsStanding.calls k _ _ l0 true _ ?side1 ?side2 A2.out).mono ?_); (case side1 => repeat (first | exact HR0.out | (with_reducible refine Kd.C_alloc ?_ _) | (with_reducible refine Kd.C_drewN ?_ _) | (with_reducible refine Kd.C_drew ?_))); (case side2 => exact HC0.out); rintro e w' ⟨rfl, ⟨nd, rfl⟩⟩; refine ⟨_, rfl, ?_⟩) | ((with_reducible refine gate_callee (f := 34) rfl ?_); refine goesL_ (some 8) rfl rfl Try.func34 (by kernel_rfl) rfl #[.slice A0 l0.length c0] rfl (by (try simp only [List.map_toArray, List.map_cons, List.map_nil]); first | done | rfl | (simp only [List.length_drop, List.length_take]; rfl)) ?_; (with_reducible refine (impl_stay.calls _ _ l0 t141 _ ?side1 ?side2 A4.out).mono ?_); (case side1 => repeat (first | exact HR0.out | (with_reducible refine Kd.C_alloc ?_ _) | (with_reducible refine Kd.C_drewN ?_ _) | (with_reducible refine Kd.C_drew ?_))); (case side2 => exact HC0.out); rintro e w5 ⟨v142, rfl, ho0, hb⟩; refine ⟨_, rfl, ?_⟩; have n0_ := Aside0.mk (Kd.R_lower ho0 (below_size (by repeat (first | (with_reducible first | exact HB.out | apply below_alloc | apply pw_below_drewN | apply below_drew1) | exact HB.out)))); have n1_ := Aside0.mk (below_step (by repeat (first | (with_reducible first | exact HB.out | apply below_alloc | apply pw_below_drewN | apply below_drew1) | exact HB.out)) hb); clear HB; have HO143 := n0_; have HB := n1_; clear n0_ n1_; (try clear hb); (try clear hb2); (try clear hk); (try clear hi); (try clear ho0)))
    go_ret2
    exact ⟨_, by first | rfl | (simp [errW_none, errW_some] <;> rfl) | (simp [*, errW_none, errW_some] <;> rfl), by (with_reducible repeat (first | apply Kd.R_alloc | apply Kd.R_drewN | apply Kd.R_drew)); exact HO143.out, by repeat (first | (with_reducible first | exact HB.out | apply below_alloc | apply pw_below_drewN | apply below_drew1) | exact HB.out)⟩
  · replace c3 := Bool.eq_false_iff.mpr c3
    subst c3
    have H1 : (some (([] : List Int), false)) = some (r1, r2) := by rw [if_neg (show ¬ (false = true) by decide)] at H; exact H
    clear H
    have H := H1
    clear H1
    simp only [Option.some.injEq, Prod.mk.injEq] at H
    obtain ⟨rfl, rfl⟩ := H
    go_enter Try.func21, Try.ntmps21
    go_wp2_with (first | ((with_reducible refine gate_callee (f := 12) rfl ?_); refine goesL_ (some 5) rfl rfl Try.func12 (by kernel_rfl) rfl #[.slice A0 l0.length c0] rfl (by (try simp only [List.map_toArray, List.map_cons, List.map_nil]); first | done | rfl | (simp only [List.length_drop, List.length_take]; rfl)) ?_; (with_reducible refine (impl_IsStanding.calls k _ _ l0 false _ ?side1 ?side2 A2.out).mono ?_); (case side1 => repeat (first | exact HR0.out | (with_reducible refine Kd.C_alloc ?_ _) | (with_reducible refine Kd.C_drewN ?_ _) | (with_reducible refine Kd.C_drew ?_))); (case side2 => exact HC0.out); rintro e w' ⟨rfl, ⟨nd, rfl⟩⟩; refine ⟨_, rfl, ?_⟩))
    go_ret2
    exact ⟨_, by first | rfl | (simp [errW_none, errW_some] <;> rfl) | (simp [*, errW_none, errW_some] <;> rfl), by first | exact Kd.R_nil _ _ _ _ _ | exact Kd.N_nil _ _ _ _ _ | exact Kd.V_nil _ _ _ _ _ | exact Kd.Q_nil _ _ _ _ _ | exact Kd.S_nil _ _ _ _ _, by repeat (first | (with_reducible first | exact HB.out | apply below_alloc | apply pw_below_drewN | apply below_drew1) | exact HB.out)⟩

/-! ### laws_markIntS: function 22 -/
def laws_markIntS.l0 : Nat → List Int → Int → Int → Option (Int × List Int)
  | 0, _, _, _ => none
  | k + 1, x0, x1, x5 => if x5 < (x0.length : Int) then (if 0 ≤ x5 then (laws_markIntS.l0 k (x0.set (x5 : Int).toNat x1) (wrap64 (x1 + 1)) (wrap64 (x5 + 1))) else (none)) else (some (x1, x0))
def laws_markIntS.f (k : Nat) (l0 : List Int) (a1 : Int) : Option (Int × List Int) := laws_markIntS.l0 k l0 a1 0
theorem laws_markIntS.mono_l : ∀ k, (∀ y0 y1 y2, LeO (laws_markIntS.l0 k y0 y1 y2) (laws_markIntS.l0 (k + 1) y0 y1 y2))
  | 0 => fun _ _ _ r h => by simp [laws_markIntS.l0] at h
  | k + 1 => by
    have ih0 := laws_markIntS.mono_l k
    · intro y0 y1 y2
      unfold laws_markIntS.l0
      repeat' first
      | (with_reducible exact ih0 _ _ _)
      | (with_reducible exact LeO.refl _)
      | (with_reducible exact LeO.none _)
      | (with_reducible refine LeO.ite ?_ ?_)
      | (with_reducible refine LeO.bind ?_ (fun _ => ?_))
      | exact ih0 _ _ _
      | exact LeO.none _
      | refine LeO.ite ?_ ?_
      | refine LeO.bind ?_ (fun _ => ?_)
theorem laws_markIntS.mono : ∀ a0 a1 k, LeO (laws_markIntS.f k a0 a1) (laws_markIntS.f (k + 1) a0 a1) := by
  intro a0 a1 k
  have ih0 := laws_markIntS.mono_l k
  unfold laws_markIntS.f
  repeat' first
      | (with_reducible exact ih0 _ _ _)
      | (with_reducible exact LeO.refl _)
      | (with_reducible exact LeO.none _)
      | (with_reducible refine LeO.ite ?_ ?_)
      | (with_reducible refine LeO.bind ?_ (fun _ => ?_))
      | exact ih0 _ _ _
      | exact LeO.none _
      | refine LeO.ite ?_ ?_
      | refine LeO.bind ?_ (fun _ => ?_)
set_option maxHeartbeats 8000000 in
set_option maxRecDepth 100000 in
theorem laws_markIntS.calls (k : Nat) (P0_ : Nat → Prop) (u9000_ : Value) (l0 : List Int) (a1 : Int) (r1 : Int) (r2 : List Int) (w0 w : World) (hB : Below w0.heap.size w0 w) (ho0 : Kd.R (Kd.int .i64) 3 w w0.heap.size P0_ u9000_ l0) (h : laws_markIntS.f k l0 a1 = some (r1, r2)) :
    Calls Try.prog 22 #[u9000_, .int .i64 a1] w fun e w' => e = .returned (.int .i64 r1) ∧ Kd.R (Kd.int .i64) 3 w' w0.heap.size (fun k_ => (P0_ k_ ∨ w.heap.size ≤ k_)) u9000_ r2 ∧ Below w0.heap.size w0 w' ∧ Kept w w' (fun k_ => P0_ k_) := by
  have HO0 := Aside0.mk (show Kd.R (Kd.int .i64) 3 w w0.heap.size (fun k_ => (P0_ k_ ∨ w.heap.size ≤ k_)) u9000_ l0 from Kd.R_mono ho0 (fun k_ hk => (.inl hk)))
  have HK := Aside0.mk (Kept.refl w (fun k_ => P0_ k_))
  have HW0 := Aside0.mk hB.size
  have HB := Aside0.mk hB
  clear hB
  have H : (laws_markIntS.l0 k l0 a1 0) = some (r1, r2) := h
  clear h
  have H' := Aside0.mk H
  clear H
  go_enter Try.func22, Try.ntmps22
  go_wp2
  go_loopg [1, 5] k (fun kq v1 v5 w' => ∃ (x0_1 : List Int) (x1_1 : Int) (x5_1 : Int), v1 = .int .i64 x1_1 ∧ v5 = .int .i64 x5_1 ∧ Aside0 (laws_markIntS.l0 kq x0_1 x1_1 x5_1 = some (r1, r2)) ∧ Aside0 (kq ≤ k) ∧ Aside0 (Kd.R (Kd.int .i64) 3 w' w0.heap.size (fun k_ => (P0_ k_ ∨ w.heap.size ≤ k_)) u9000_ x0_1) ∧ Aside0 (Kept w w' (fun k_ => P0_ k_)) ∧ Aside0 (Below w0.heap.size w0 w'))
  case atStart => exact ⟨(l0), (a1), (0), (by first | rfl | (simp; done) | (simp [*]; done)), (by first | rfl | (simp; done) | (simp [*]; done)), H', ⟨Nat.le_refl _⟩, ⟨by (with_reducible repeat (first | apply Kd.R_alloc | apply Kd.R_drewN | apply Kd.R_drew)); exact HO0.out⟩, ⟨by repeat (first | (with_reducible first | exact HK.out | apply Kept.alloc | apply Kept.drewN | apply Kept.drew) | exact HK.out)⟩, ⟨by repeat (first | (with_reducible first | exact HB.out | apply below_alloc | apply pw_below_drewN | apply below_drew1) | exact HB.out)⟩⟩
  case round =>
    clear H'
    try clear c2
    try clear p2
    obtain ⟨x0_1, x1_1, x5_1, rfl, rfl, HA, HK1, HO_0, HK, HB⟩ := hrel
    cases gk with
    | zero => exact absurd HA.out (by simp [laws_markIntS.l0])
    | succ k1 =>
      have H := HA.out
      clear HA
      simp only [laws_markIntS.l0] at H
      by_cases c3 : x5_1 < (x0_1.length : Int)
      · rw [if_pos c3] at H
        have c3b0 : decide (x5_1 < (x0_1.length : Int)) = true := decide_eq_true c3
        clear c3
        by_cases c4 : 0 ≤ x5_1
        · rw [if_pos c4] at H
          have c4b0 : decide (0 ≤ x5_1) = true := decide_eq_true c4
          clear c4
          obtain ⟨y144, hy144⟩ : ∃ y_ : List Int, y_ = (x0_1.set (x5_1 : Int).toNat x1_1) := ⟨_, rfl⟩
          replace H : (laws_markIntS.l0 k1 y144 (wrap64 (x1_1 + 1)) (wrap64 (x5_1 + 1))) = some (r1, r2) := by first | (rw [hy144]; with_reducible exact H) | (have H2_ := (Option.bind_some _ _).symm.trans H; rw [hy144]; with_reducible exact H2_) | (have H2_ := (Option.bind_some _ _).symm.trans H; with_reducible exact H2_) | with_reducible exact H | (rw [hy144]; exact H) | exact H
          have Ny144 := Aside0.mk hy144
          clear hy144
          have H' := Aside0.mk H
          clear H
          obtain ⟨Ao6, co6, eo6⟩ := Kd.R_slice HO_0.out
          subst eo6
          have p5 : 0 ≤ (x5_1 : Int) := of_decide_eq_true (by first | (with_reducible assumption) | assumption)
          have q5 : (x5_1 : Int) < ((x0_1.length : Int) : Int) := of_decide_eq_true (by first | (with_reducible assumption) | assumption)
          obtain ⟨go5, co5, eo5, gb5, gl5, cl5, HG5⟩ := Kd.R_form HO_0.out (by omega)
          (first | cases eo5 | (injection eo5 with ea_ en_ ec_; (first | subst ea_ | (injection ea_ with ea_; subst ea_)); subst ec_; clear en_))
          have GB5 := Aside0.mk gb5
          have GG5 := Aside0.mk HG5
          clear gb5 gl5 HG5
          have HMgo5 := Aside0.mk (show (P0_ go5 ∨ w.heap.size ≤ go5) from (HO_0.out.1 _ rfl))
          obtain ⟨hx5_0, hf5_0⟩ := Kd.R_celln 0 HO_0.out (x5_1 : Int) p5 q5
          replace p5 := eq_true p5
          replace q5 := eq_true q5
          have HP7 := Kd.R_putg HO_0.out (x5_1 : Int) x1_1
          go_wp2_with (first | ((with_reducible refine gate_store (t := 3) (p := 15) rfl ?_); refine store_event (t := 3) (p := 15) (v := ?vo_w8) (w1 := (wr.setCell ⟨go5, (x5_1 : Int).toNat, none⟩ (.int .i64 x1_1))) ?hg ?ho ?hn ?hr ?_; (case ho => rfl); (case hg => rfl); (case hn => rfl); (case hr => first | (go_simp; done) | (go_simp; rfl)); intro w8 hw; have hg : wr.grownBy w8 (some go5) := (by rw [hw]; exact HP7.2); have hp_ : Kd.R (Kd.int .i64) 3 w8 w0.heap.size (fun k_ => (P0_ k_ ∨ w.heap.size ≤ k_)) (.slice (some ⟨go5, 0, none⟩) x0_1.length co6) y144 := (by rw [hw, Ny144.out]; exact HP7.1); clear HP7; have n0_ := Aside0.mk (hp_); have n1_ := Aside0.mk ((by rw [hw]; exact below_set (HB.out) GB5.out : Below w0.heap.size w0 w8)); have n2_ := Aside0.mk (Kept.of_grown (S := (fun k_ => P0_ k_)) hg (by repeat (first | (with_reducible first | exact HK.out | apply Kept.alloc | apply Kept.drewN | apply Kept.drew) | exact HK.out)) (fun k_ e_ => (HO_0.out.1 k_ e_))); clear HO_0; clear HB; clear HK; have HO_0 := n0_; have HB := n1_; have HK := n2_; clear n0_ n1_ n2_; clear hg hw hp_))
          go_roundg k1
          case measure => have := HK1.out; omega
          case rel => exact ⟨(y144), (wrap64 (x1_1 + 1)), (wrap64 (x5_1 + 1)), (by first | rfl | (simp; done) | (simp [*]; done)), (by first | rfl | (simp; done) | (simp [*]; done)), H', ⟨by have := HK1.out; omega⟩, ⟨by (with_reducible repeat (first | apply Kd.R_alloc | apply Kd.R_drewN | apply Kd.R_drew)); exact HO_0.out⟩, ⟨by repeat (first | (with_reducible first | exact HK.out | apply Kept.alloc | apply Kept.drewN | apply Kept.drew) | exact HK.out)⟩, ⟨by repeat (first | (with_reducible first | exact HB.out | apply below_alloc | apply pw_below_drewN | apply below_drew1) | exact HB.out)⟩⟩
        · rw [if_neg c4] at H
          exact absurd H (by simp)
      · rw [if_neg c3] at H
        have c3b0 : decide (x5_1 < (x0_1.length : Int)) = false := decide_eq_false c3
        clear c3
        simp only [Option.some.injEq, Prod.mk.injEq] at H
        obtain ⟨rfl, rfl⟩ := H
        obtain ⟨Ao9, co9, eo9⟩ := Kd.R_slice HO_0.out
        subst eo9
        go_wp2
        go_ret
        exact ⟨by first | rfl | (simp [errW_none, errW_some] <;> rfl) | (simp [*, errW_none, errW_some] <;> rfl), by (with_reducible repeat (first | apply Kd.R_alloc | apply Kd.R_drewN | apply Kd.R_drew)); exact HO_0.out, by repeat (first | (with_reducible first | exact HB.out | apply below_alloc | apply pw_below_drewN | apply below_drew1) | exact HB.out), by repeat (first | (with_reducible first | exact HK.out | apply Kept.alloc | apply Kept.drewN | apply Kept.drew) | exact HK.out)⟩

/-! ### laws_heldIntS: function 23 -/
def laws_heldIntS.l0 : Nat → List Int → Int → Int → Option (Int)
  | 0, _, _, _ => none
  | k + 1, x0, x1, x5 => if x5 < (x0.length : Int) then (if 0 ≤ x5 then (if (rd x0 x5) = x1 then (laws_heldIntS.l0 k x0 (wrap64 (x1 + 1)) (wrap64 (x5 + 1))) else (some (-1))) else (none)) else (some x1)
def laws_heldIntS.f (k : Nat) (l0 : List Int) (a1 : Int) : Option (Int) := laws_heldIntS.l0 k l0 a1 0
theorem laws_heldIntS.mono_l : ∀ k, (∀ y0 y1 y2, LeO (laws_heldIntS.l0 k y0 y1 y2) (laws_heldIntS.l0 (k + 1) y0 y1 y2))
  | 0 => fun _ _ _ r h => by simp [laws_heldIntS.l0] at h
  | k + 1 => by
    have ih0 := laws_heldIntS.mono_l k
    · intro y0 y1 y2
      unfold laws_heldIntS.l0
      repeat' first
      | (with_reducible exact ih0 _ _ _)
      | (with_reducible exact LeO.refl _)
      | (with_reducible exact LeO.none _)
      | (with_reducible refine LeO.ite ?_ ?_)
      | (with_reducible refine LeO.bind ?_ (fun _ => ?_))
      | exact ih0 _ _ _
      | exact LeO.none _
      | refine LeO.ite ?_ ?_
      | refine LeO.bind ?_ (fun _ => ?_)
theorem laws_heldIntS.mono : ∀ a0 a1 k, LeO (laws_heldIntS.f k a0 a1) (laws_heldIntS.f (k + 1) a0 a1) := by
  intro a0 a1 k
  have ih0 := laws_heldIntS.mono_l k
  unfold laws_heldIntS.f
  repeat' first
      | (with_reducible exact ih0 _ _ _)
      | (with_reducible exact LeO.refl _)
      | (with_reducible exact LeO.none _)
      | (with_reducible refine LeO.ite ?_ ?_)
      | (with_reducible refine LeO.bind ?_ (fun _ => ?_))
      | exact ih0 _ _ _
      | exact LeO.none _
      | refine LeO.ite ?_ ?_
      | refine LeO.bind ?_ (fun _ => ?_)
set_option maxHeartbeats 8000000 in
set_option maxRecDepth 100000 in
theorem laws_heldIntS.calls (k : Nat) (A0 : Option Addr) (c0 : Nat) (l0 : List Int) (a1 : Int) (r : Int) (w : World) (hr0 : Kd.C (Kd.int .i64) w A0 l0.length l0) (hc0 : l0.length ≤ c0) (h : laws_heldIntS.f k l0 a1 = some r) :
    Calls Try.prog 23 #[.slice A0 l0.length c0, .int .i64 a1] w fun e w' => e = .returned (.int .i64 r) ∧ Drawn0 w w' := by
  have HR0 := Aside0.mk hr0
  have HC0 := Aside0.mk hc0
  clear hr0 hc0
  have H : (laws_heldIntS.l0 k l0 a1 0) = some r := h
  clear h
  have H' := Aside0.mk H
  clear H
  go_enter Try.func23, Try.ntmps23
  go_wp2
  go_loopg [1, 5] k (fun kq v1 v5 w' => ∃ (x1_1 : Int) (x5_1 : Int), v1 = .int .i64 x1_1 ∧ v5 = .int .i64 x5_1 ∧ Aside0 (laws_heldIntS.l0 kq l0 x1_1 x5_1 = some r) ∧ Aside0 (kq ≤ k) ∧ Drawn0 w w')
  case atStart => exact ⟨(a1), (0), (by first | rfl | (simp; done) | (simp [*]; done)), (by first | rfl | (simp; done) | (simp [*]; done)), H', ⟨Nat.le_refl _⟩, by repeat (first | exact Drawn0.refl _ | apply Drawn0.step)⟩
  case round =>
    clear H'
    try clear c2
    try clear p2
    obtain ⟨x1_1, x5_1, rfl, rfl, HA, HK1, ⟨m1, rfl⟩⟩ := hrel
    cases gk with
    | zero => exact absurd HA.out (by simp [laws_heldIntS.l0])
    | succ k1 =>
      have H := HA.out
      clear HA
      simp only [laws_heldIntS.l0] at H
      by_cases c3 : x5_1 < (l0.length : Int)
      · rw [if_pos c3] at H
        have c3b0 : decide (x5_1 < (l0.length : Int)) = true := decide_eq_true c3
        clear c3
        by_cases c4 : 0 ≤ x5_1
        · rw [if_pos c4] at H
          have c4b0 : decide (0 ≤ x5_1) = true := decide_eq_true c4
          clear c4
          by_cases c5 : (rd l0 x5_1) = x1_1
          · rw [if_pos c5] at H
            have c5b0 : ((rd l0 x5_1) == x1_1) = true := beq_iff_eq.mpr c5
            have c5b1 : ((rd l0 x5_1) != x1_1) = false := bne_eq_false_iff_eq.mpr c5
            clear c5
            have H' := Aside0.mk H
            clear H
            have p145 : 0 ≤ (x5_1 : Int) := of_decide_eq_true (by first | (with_reducible assumption) | assumption)
            have q145 : x5_1 < (l0.length : Int) := of_decide_eq_true (by first | (with_reducible assumption) | assumption)
            obtain ⟨ad145, e145, hx145_0⟩ := Kd.at_int HR0.out x5_1 p145 q145
            cases e145
            replace p145 := eq_true p145
            replace q145 := eq_true q145
            go_wp2
            go_roundg k1
            case measure => have := HK1.out; omega
            case rel => exact ⟨(wrap64 (x1_1 + 1)), (wrap64 (x5_1 + 1)), (by first | rfl | (simp; done) | (simp [*]; done)), (by first | rfl | (simp; done) | (simp [*]; done)), H', ⟨by have := HK1.out; omega⟩, by repeat (first | exact Drawn0.refl _ | apply Drawn0.step)⟩
          · rw [if_neg c5] at H
            have c5b0 : ((rd l0 x5_1) == x1_1) = false := beq_eq_false_iff_ne.mpr c5
            have c5b1 : ((rd l0 x5_1) != x1_1) = true := bne_iff_ne.mpr c5
            obtain rfl := Option.some.inj H
            have p145 : 0 ≤ (x5_1 : Int) := of_decide_eq_true (by first | (with_reducible assumption) | assumption)
            have q145 : x5_1 < (l0.length : Int) := of_decide_eq_true (by first | (with_reducible assumption) | assumption)
            obtain ⟨ad145, e145, hx145_0⟩ := Kd.at_int HR0.out x5_1 p145 q145
            cases e145
            replace p145 := eq_true p145
            replace q145 := eq_true q145
            go_wp2
            go_ret
            exact ⟨by first | rfl | (simp; done) | (simp [*]; done), by repeat (first | exact Drawn0.refl _ | apply Drawn0.step)⟩
        · rw [if_neg c4] at H
          exact absurd H (by simp)
      · rw [if_neg c3] at H
        have c3b0 : decide (x5_1 < (l0.length : Int)) = false := decide_eq_false c3
        clear c3
        obtain rfl := Option.some.inj H
        go_wp2
        go_ret
        exact ⟨by first | rfl | (simp; done) | (simp [*]; done), by repeat (first | exact Drawn0.refl _ | apply Drawn0.step)⟩

end Go.Proofs.Ytlolifijdeenjaa.XFnExactFirstStay
