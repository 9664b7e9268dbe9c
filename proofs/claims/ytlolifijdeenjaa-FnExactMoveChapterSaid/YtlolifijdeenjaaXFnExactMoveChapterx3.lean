-- Written by a program of this session: the machine side of the law FnExactMoveChapter, with contracts proved by hand for what the kit's print doesn't take. Lean checks it.
import Derived.Test.YtlolifijdeenjaaXFnExactMoveChapterx0
import Derived.Test.YtlolifijdeenjaaXFnExactMoveChapterx2
namespace Go.Proofs.Ytlolifijdeenjaa.XFnExactMoveChapter
open Go.RowKit Go.Proofs.YtlolifijdeenjaaW.PrintWords Go.Proofs.YtlolifijdeenjaaW.PrintLast Go.Proofs.YtlolifijdeenjaaW.PrintMore
attribute [local go_sem] max2_int min2_int max_two min_two max_three min_three max_four min_four   -- for this text's walks alone
set_option linter.unusedVariables false
set_option linter.unusedSimpArgs false


/-! ### impl_moved: function 36: by hand -/
-- shelf: yes
/-- A row of whole numbers of the call's own, its cells overwritten from one place on. -/
def impl_moved.over : List Int → Nat → List Int → List Int
  | xs, _, [] => xs
  | xs, o, v :: vs => impl_moved.over (xs.set o v) (o + 1) vs
theorem impl_moved.over_eq : ∀ (vs xs : List Int) (o : Nat), o + vs.length ≤ xs.length → impl_moved.over xs o vs = xs.take o ++ vs ++ xs.drop (o + vs.length)
  | [], xs, o, _ => by simp [impl_moved.over]
  | v :: vs, xs, o, h => by
    rw [List.length_cons] at h
    rw [impl_moved.over, impl_moved.over_eq vs (xs.set o v) (o + 1) (by rw [List.length_set]; omega), List.take_set, List.drop_set_of_lt (by omega), List.length_cons, show o + 1 + vs.length = o + (vs.length + 1) by omega]
    congr 1
    rw [List.take_succ_eq_append_getElem (show o < xs.length by omega), List.set_append_right _ _ (by rw [List.length_take]; omega)]
    simp [List.length_take, Nat.min_eq_left (show o ≤ xs.length by omega)]
theorem impl_moved.sets {e base g n cap : Nat} {ok : Nat → Prop} : ∀ (vs : List Int) (o : Nat) (W : World) (xs : List Int), Kd.R (Kd.int .i64) e W base ok (.slice (some ⟨g, 0, none⟩) n cap) xs →
    Kd.R (Kd.int .i64) e (W.setCells g o (vs.map (Value.int .i64))) base ok (.slice (some ⟨g, 0, none⟩) n cap) (impl_moved.over xs o vs)
  | [], _, _, _, h => h
  | v :: vs, o, W, xs, h => by
    rw [List.map_cons, World.setCells, impl_moved.over]
    exact impl_moved.sets vs (o + 1) _ _ (Kd.R_putn h (o : Int) v)
theorem impl_moved.holds {e base g n cap : Nat} {ok : Nat → Prop} {W : World} {xs : List Int} (h : Kd.R (Kd.int .i64) e W base ok (.slice (some ⟨g, 0, none⟩) n cap) xs) : xs.length = n ∧ n ≤ cap ∧ cap ≤ maxLen ∧ Go.Sort.Holds (Value.int .i64) W g 0 xs.toArray := by
  obtain ⟨rfl, _⟩ := Kd.R_reads' h
  obtain ⟨inner, ho⟩ := Kd.R_own h
  have hc : xs.length ≤ cap ∧ cap ≤ maxLen := by
    rcases ho.2 with ⟨e0, _⟩ | ⟨g', cap', cur, e0, _, _, hn, hm, _⟩
    · cases e0
    · injection e0 with _ _ e1
      subst e1
      exact ⟨hn, hm⟩
  refine ⟨rfl, hc.1, hc.2, fun j hj => ?_⟩
  rw [List.size_toArray] at hj
  have h2 := Kd.R_celln (0 : Int) h (j : Int) (by omega) (by omega)
  rw [Int.toNat_natCast] at h2
  rw [Nat.zero_add]
  refine ⟨?_, h2.2⟩
  rw [h2.1]
  congr 1
  show (Value.int .i64 (rdOf (0 : Int) xs (j : Int))) = _
  congr 1
  rw [getElem!_pos xs.toArray j (by simpa using hj)]
  simp [rdOf, List.getD_eq_getElem?_getD, hj]
theorem impl_moved.deleted {e base g n cap : Nat} {ok : Nat → Prop} {W : World} {xs : List Int} (h : Kd.R (Kd.int .i64) e W base ok (.slice (some ⟨g, 0, none⟩) n cap) xs) (i : Nat) (hi : i < n) :
    Calls Try.prog 42 #[.slice (some ⟨g, 0, none⟩) n cap, .int .i64 (i : Int), .int .i64 ((i + 1 : Nat) : Int)] W fun e1 w' => e1 = .returned (.slice (some ⟨g, 0, none⟩) (n - 1) cap) ∧
      Kd.R (Kd.int .i64) e w' base ok (.slice (some ⟨g, 0, none⟩) n cap) (xs.take i ++ xs.drop (i + 1) ++ [0]) ∧ W.grownBy w' (some g) := by
  obtain ⟨hl, hc, hm, hH⟩ := impl_moved.holds h
  subst hl
  have hd := Any.slices_Delete_int Try.laysNm223 g 0 cap i (i + 1) xs W hH hc (by unfold maxLen at hm; omega) (by omega) (by omega)
  refine hd.mono ?_
  rintro e1 w' ⟨rfl, q, rfl⟩
  have hq : Kd.R (Kd.int .i64) e (Go.Sort.ahead W q) base ok (.slice (some ⟨g, 0, none⟩) xs.length cap) xs := Kd.R_move h (fun _ _ => rfl)
  have hH2 := (impl_moved.holds hq).2.2.2
  have hw : Go.Sort.putRow (Value.int .i64) (Go.Sort.ahead W q) g 0 (xs.take i ++ xs.drop (i + 1) ++ List.replicate (i + 1 - i) 0).toArray = (Go.Sort.ahead W q).setCells g 0 ((xs.take i ++ xs.drop (i + 1) ++ [0]).map (Value.int .i64)) := by
    have h3 := Go.Lib.putRow_setCells (Value.int .i64) (Go.Sort.ahead W q) g 0 (xs.take i ++ xs.drop (i + 1) ++ [0]) xs.toArray 0 (by simp; omega)
    rw [Go.Sort.putRow_self _ _ _ _ _ hH2, Go.Lib.lay_all _ _ (by simp; omega)] at h3
    rw [show i + 1 - i = 1 by omega]
    exact h3.symm
  rw [hw]
  have hs := impl_moved.sets (xs.take i ++ xs.drop (i + 1) ++ [0]) 0 _ _ hq
  have hz : xs.drop (0 + (xs.take i ++ xs.drop (i + 1) ++ [0]).length) = [] := List.drop_of_length_le (by simp; omega)
  rw [impl_moved.over_eq _ _ _ (by simp; omega), List.take_zero, List.nil_append, hz, List.append_nil] at hs
  refine ⟨by rw [show i + 1 - i = 1 by omega], hs, ?_⟩
  obtain ⟨g1, g2, g3, g4⟩ := setCells_same g ((xs.take i ++ xs.drop (i + 1) ++ [0]).map (Value.int .i64)) 0 (Go.Sort.ahead W q)
  exact ⟨g1, g2, g3, by rw [g4]; exact Nat.le_refl _, fun k _ hk => (setCells_far _ _ k (fun e => hk (by rw [e]))).trans rfl⟩
theorem impl_moved.inserted {e base g n cap vb : Nat} {ok : Nat → Prop} {W : World} {xs : List Int} {x : Int} (h : Kd.R (Kd.int .i64) e W base ok (.slice (some ⟨g, 0, none⟩) n cap) xs) (hv : W.heap[vb]? = some (.cells #[.int .i64 x] e (0, 0))) (hvb : vb ≠ g) (i : Nat) (hi : i < n) :
    Calls Try.prog 43 #[.slice (some ⟨g, 0, none⟩) (n - 1) cap, .int .i64 (i : Int), .slice (some ⟨vb, 0, none⟩) 1 1] W fun e1 w' => e1 = .returned (.slice (some ⟨g, 0, none⟩) n cap) ∧
      Kd.R (Kd.int .i64) e w' base ok (.slice (some ⟨g, 0, none⟩) n cap) ((xs.take (n - 1)).take i ++ [x] ++ (xs.take (n - 1)).drop i) ∧ W.grownBy w' (some g) := by
  obtain ⟨hl, hc, hm, hH⟩ := impl_moved.holds h
  subst hl
  have hcap : cap ≤ 9223372036854775807 := by unfold maxLen at hm; omega
  have hvc : ∀ (j : Nat) (v : Value), ([.int .i64 x] : List Value)[j]? = some v → W.cell? ⟨vb, 0 + j, none⟩ = some v := by
    intro j v hj
    match j, hj with
    | 0, hj =>
      have : Value.int .i64 x = v := by simpa using hj
      rw [← this]
      simp [World.cell?, hv]
  have hcell : ∀ (j : Nat) (v : Value), (xs.map (Value.int .i64))[j]? = some v → W.cell? ⟨g, 0 + j, none⟩ = some v := by
    intro j v hj
    obtain ⟨hjl, hjv⟩ := List.getElem?_eq_some_iff.1 hj
    rw [List.length_map] at hjl
    rw [(hH j (by simpa using hjl)).1, ← hjv, getElem!_pos xs.toArray j (by simpa using hjl)]
    simp
  by_cases c : i < xs.length - 1
  · have hsh := Any2.slices_Insert_int_shift Try.laysNm221 g 0 (xs.length - 1) cap i vb 0 1 1 ((xs.take (xs.length - 1)).map (Value.int .i64)) [.int .i64 x] W c (by omega) (by omega) hcap hvb (by simp) rfl
      (fun j v hj => hcell j v (by rw [List.map_take, List.getElem?_take] at hj; split at hj <;> simp_all))
      (fun j hj => by rw [(hH j (by simp; omega)).1]; rfl) (fun j hj => (hH j (by simp; omega)).2) hvc (fun v hv => by obtain ⟨y, _, rfl⟩ := List.mem_map.1 hv; rfl) (fun v hv => by rw [List.mem_singleton.1 hv]; rfl)
    obtain ⟨inner, ho⟩ := Kd.R_own h
    obtain ⟨cur, hcur⟩ := own_typed ho g rfl
    have hcs : cur.size ≠ 0 := by
      intro z
      have := (hH 0 (by simp; omega)).1
      simp [World.cell?, hcur, z] at this
    refine (hsh e e 1 cur.size (by simp [World.shape?, hv]) (by simp [World.shape?, hcur]) hcs (by simp [World.frozen?, hv]) (by simp [World.frozen?, hv])).mono ?_
    rintro e1 w' ⟨rfl, rfl⟩
    have hq : Kd.R (Kd.int .i64) e W.drew base ok (.slice (some ⟨g, 0, none⟩) xs.length cap) xs := Kd.R_move h (fun _ _ => rfl)
    have hs := impl_moved.sets [x] i _ _ (impl_moved.sets ((xs.take (xs.length - 1)).drop i) (i + 1) _ _ hq)
    rw [impl_moved.over_eq ((xs.take (xs.length - 1)).drop i) xs (i + 1) (by simp; omega), impl_moved.over_eq _ _ _ (by simp; omega)] at hs
    simp only [Nat.zero_add]
    rw [← List.map_drop]
    refine ⟨by rw [show xs.length - 1 + 1 = xs.length by omega], ?_, ?_⟩
    · have e2 : (xs.take (xs.length - 1)).take i ++ [x] ++ (xs.take (xs.length - 1)).drop i = (xs.take (i + 1) ++ (xs.take (xs.length - 1)).drop i ++ xs.drop (i + 1 + ((xs.take (xs.length - 1)).drop i).length)).take i ++ [x] ++ (xs.take (i + 1) ++ (xs.take (xs.length - 1)).drop i ++ xs.drop (i + 1 + ((xs.take (xs.length - 1)).drop i).length)).drop (i + [x].length) := by
        have l1 : (xs.take (i + 1)).length = i + 1 := by rw [List.length_take]; omega
        have l2 : xs.drop (i + 1 + ((xs.take (xs.length - 1)).drop i).length) = [] := List.drop_of_length_le (by simp; omega)
        rw [l2, List.append_nil, List.take_append_of_le_length (by omega), List.take_take, List.take_take, List.length_singleton, List.drop_left' l1]
        rw [Nat.min_eq_left (show i ≤ xs.length - 1 by omega), Nat.min_eq_left (show i ≤ i + 1 by omega)]
      rw [e2]
      exact hs
    · obtain ⟨g1, g2, g3, g4⟩ := setCells_same g (((xs.take (xs.length - 1)).drop i).map (Value.int .i64)) (i + 1) W.drew
      obtain ⟨k1, k2, k3, k4⟩ := setCells_same g [Value.int .i64 x] i (W.drew.setCells g (i + 1) (((xs.take (xs.length - 1)).drop i).map (Value.int .i64)))
      exact ⟨k1.trans g1, k2.trans g2, k3.trans g3, by rw [k4, g4]; exact Nat.le_refl _, fun k _ hk => (setCells_far _ _ k (fun e => hk (by rw [e]))).trans ((setCells_far _ _ k (fun e => hk (by rw [e]))).trans rfl)⟩
  · obtain rfl : i = xs.length - 1 := by omega
    refine (Any2.slices_Insert_int_end_room Try.laysNm221 g 0 (xs.length - 1) cap vb 0 1 1 [.int .i64 x] W (by omega) (by omega) hcap rfl
      (fun j hj => by rw [Nat.zero_add, show xs.length - 1 + j = xs.length - 1 by omega]; have := (hH (xs.length - 1) (by simp; omega)).1; rw [Nat.zero_add] at this; rw [this]; rfl)
      (fun j hj => by rw [Nat.zero_add, show xs.length - 1 + j = xs.length - 1 by omega]; have := (hH (xs.length - 1) (by simp; omega)).2; rw [Nat.zero_add] at this; exact this) hvc (fun v hv => by rw [List.mem_singleton.1 hv]; rfl)).mono ?_
    rintro e1 w' ⟨rfl, rfl⟩
    have hs := impl_moved.sets [x] (xs.length - 1) _ _ h
    rw [impl_moved.over_eq _ _ _ (by simp; omega)] at hs
    rw [Nat.zero_add]
    refine ⟨by rw [show xs.length - 1 + 1 = xs.length by omega], ?_, ?_⟩
    · have e2 : (xs.take (xs.length - 1)).take (xs.length - 1) ++ [x] ++ (xs.take (xs.length - 1)).drop (xs.length - 1) = xs.take (xs.length - 1) ++ [x] ++ xs.drop (xs.length - 1 + [x].length) := by
        rw [List.take_take, Nat.min_self, List.drop_of_length_le (by simp), List.drop_of_length_le (by simp; omega)]
      rw [e2]
      exact hs
    · obtain ⟨g1, g2, g3, g4⟩ := setCells_same g [Value.int .i64 x] (xs.length - 1) W
      exact ⟨g1, g2, g3, by rw [g4]; exact Nat.le_refl _, fun k _ hk => setCells_far _ _ k (fun e => hk (by rw [e]))⟩
/-- The list with the element of one place at another. -/
def impl_moved.list (l : List Int) (i j : Nat) : List Int := (l.take i ++ l.drop (i + 1)).take j ++ [rd l (i : Int)] ++ (l.take i ++ l.drop (i + 1)).drop j
def impl_moved.f (l0 : List Int) (a1 : Int) (a2 : Int) : Option (List Int) := if 0 ≤ a1 ∧ a1 < (l0.length : Int) ∧ 0 ≤ a2 ∧ a2 < (l0.length : Int) ∧ l0.length < 1000000 then (some (impl_moved.list l0 a1.toNat a2.toNat)) else (none)
set_option maxHeartbeats 4000000 in
set_option maxRecDepth 100000 in
theorem impl_moved.calls (A0 : Option Addr) (c0 : Nat) (l0 : List Int) (a1 : Int) (a2 : Int) (r : List Int) (w : World) (hr0 : Kd.C (Kd.int .i64) w A0 l0.length l0) (hc0 : l0.length ≤ c0) (h : impl_moved.f l0 a1 a2 = some r) :
    Calls Try.prog 36 #[.slice A0 l0.length c0, .int .i64 a1, .int .i64 a2] w fun e w' => ∃ v0_ : Value, e = .returned (v0_) ∧ Kd.R (Kd.int .i64) 3 w' w.heap.size (fun _ => True) v0_ r ∧ Below w.heap.size w w' := by
  unfold impl_moved.f at h
  by_cases c : 0 ≤ a1 ∧ a1 < (l0.length : Int) ∧ 0 ≤ a2 ∧ a2 < (l0.length : Int) ∧ l0.length < 1000000
  · rw [if_pos c] at h
    obtain rfl := Option.some.inj h
    clear h
    obtain ⟨h1, h2, h3, h4, h5⟩ := c
    obtain ⟨i, rfl⟩ := Int.eq_ofNat_of_zero_le h1
    obtain ⟨j, rfl⟩ := Int.eq_ofNat_of_zero_le h3
    have hi : i < l0.length := by omega
    have hj : j < l0.length := by omega
    rw [Int.toNat_natCast, Int.toNat_natCast]
    obtain ⟨ad, rfl, hcell⟩ := hr0.2.2 (by omega)
    obtain ⟨cs, _, hcs, hcc⟩ := hcell i _ (List.getElem?_eq_getElem hi)
    have hcs' : cs = [Value.int .i64 l0[i]] := hcs
    subst hcs'
    have hx := hcc 0 _ rfl
    have hrd : rd l0 (i : Int) = l0[i] := by
      unfold rd
      rw [Int.toNat_natCast, List.getD_eq_getElem?_getD, List.getElem?_eq_getElem hi]
      rfl
    rw [show i * (Kd.int .i64).sz + 0 = i from by show i * 1 + 0 = i; omega] at hx
    have hclone : slices_Clone_int_int.f l0 = some l0 := by
      unfold slices_Clone_int_int.f
      rw [if_pos (by omega)]
    have HC := Aside0.mk (slices_Clone_int_int.calls (some ad) c0 l0 l0 w hr0 hc0 hclone)
    have hadw : (ad.add i).block < w.heap.size := World.block_lt_of_cell? w _ hx
    have HX := Aside0.mk hx
    have H5 := Aside0.mk h5
    have HL := Aside0.mk hc0
    have HW := Aside0.mk (show wrap64 ((i : Int) + 1) = ((i + 1 : Nat) : Int) by unfold wrap64; omega)
    clear hcc hcs hcell hclone hr0 hx h5
    unfold impl_moved.list
    rw [hrd]
    generalize hxv : l0[i] = xv at HX ⊢
    clear hrd hxv
    go_enter Try.func36, Try.ntmps36
    go_wp2_with (go_at_call 32; refine HC.out.mono ?_; rintro e w1 ⟨v1, rfl, ho1, hb1⟩; obtain ⟨g, cap, rfl, hg1, hg2, cells, hcl⟩ := Kd.R_form ho1 (by omega); clear hcl cells; have HO1 := Aside0.mk ho1; have HB1 := Aside0.mk hb1; have HG1 := Aside0.mk hg1; have HG2 := Aside0.mk hg2; clear ho1 hb1 hg1 hg2)
    rw [HW.out]
    refine (impl_moved.deleted HO1.out i hi).mono ?_
    rintro e w2 ⟨rfl, ho2, hg2⟩
    have hx2 : w2.cell? (ad.add i) = some (.int .i64 xv) := by
      rw [World.cell?_of_block (hg2.block _ (by have := HB1.out.size; omega) (fun e => by have := HG1.out; injection e with e; omega))]
      exact (HB1.out.cell hadw).trans HX.out
    have HO2 := Aside0.mk ho2
    have HGR := Aside0.mk hg2
    have hg2s := hg2.size
    clear ho2 hg2
    have hz : (l0.take i ++ l0.drop (i + 1) ++ [0]).take (l0.length - 1) = l0.take i ++ l0.drop (i + 1) := List.take_left' (by simp; omega)
    have HI := Aside0.mk (impl_moved.inserted (vb := w2.heap.size) (x := xv) (Kd.R_alloc HO2.out (.cells #[.int .i64 xv] 3)) (by show (w2.heap.push _)[w2.heap.size]? = _; exact Array.getElem?_push_size) (by have := HG2.out; omega) j hj)
    rw [hz] at HI
    have HB2 := Aside0.mk (below_alloc (HB1.out.grown HGR.out HB1.out.size (fun k hk => by injection hk with hk; subst hk; exact HG1.out)) (.cells #[.int .i64 xv] 3))
    clear hz
    go_wp2_with (go_at_call 43; refine HI.out.mono ?_; rintro e w4 ⟨rfl, ho4, hg4⟩)
    go_ret
    exact ⟨_, rfl, ho4, HB2.out.grown hg4 HB2.out.size (fun k hk => by injection hk with hk; subst hk; exact HG1.out)⟩
  · rw [if_neg c] at h
    exact absurd h (by simp)

/-! ### impl_allWithin: function 45 -/
def impl_allWithin.l0 : Nat → Int → Int → List Int → Int → Int → Option (Bool)
  | 0, _, _, _, _, _ => none
  | k + 1, x1, x2, x9, x10, x11 => if x11 < x10 then (if 0 ≤ x11 then (if x11 < (x9.length : Int) then ((impl_within.f (rd x9 x11) x1 x2).bind fun t155 => (if t155 = true then (impl_allWithin.l0 k x1 x2 x9 x10 (wrap64 (x11 + 1))) else (some false))) else (none)) else (none)) else (some true)
def impl_allWithin.f (k : Nat) (l0 : List Int) (a1 : Int) (a2 : Int) : Option (Bool) := impl_allWithin.l0 k a1 a2 l0 (l0.length : Int) 0
theorem impl_allWithin.mono_l : ∀ k, (∀ y0 y1 y2 y3 y4, LeO (impl_allWithin.l0 k y0 y1 y2 y3 y4) (impl_allWithin.l0 (k + 1) y0 y1 y2 y3 y4))
  | 0 => fun _ _ _ _ _ r h => by simp [impl_allWithin.l0] at h
  | k + 1 => by
    have ih0 := impl_allWithin.mono_l k
    · intro y0 y1 y2 y3 y4
      unfold impl_allWithin.l0
      repeat' first
      | (with_reducible exact ih0 _ _ _ _ _)
      | (with_reducible exact LeO.refl _)
      | (with_reducible exact LeO.none _)
      | (with_reducible refine LeO.ite ?_ ?_)
      | (with_reducible refine LeO.bind ?_ (fun _ => ?_))
      | exact ih0 _ _ _ _ _
      | exact LeO.none _
      | refine LeO.ite ?_ ?_
      | refine LeO.bind ?_ (fun _ => ?_)
theorem impl_allWithin.mono : ∀ a0 a1 a2 k, LeO (impl_allWithin.f k a0 a1 a2) (impl_allWithin.f (k + 1) a0 a1 a2) := by
  intro a0 a1 a2 k
  have ih0 := impl_allWithin.mono_l k
  unfold impl_allWithin.f
  repeat' first
      | (with_reducible exact ih0 _ _ _ _ _)
      | (with_reducible exact LeO.refl _)
      | (with_reducible exact LeO.none _)
      | (with_reducible refine LeO.ite ?_ ?_)
      | (with_reducible refine LeO.bind ?_ (fun _ => ?_))
      | exact ih0 _ _ _ _ _
      | exact LeO.none _
      | refine LeO.ite ?_ ?_
      | refine LeO.bind ?_ (fun _ => ?_)
set_option maxHeartbeats 8000000 in
set_option maxRecDepth 100000 in
theorem impl_allWithin.calls (k : Nat) (A0 : Option Addr) (c0 : Nat) (l0 : List Int) (a1 : Int) (a2 : Int) (r : Bool) (w : World) (hr0 : Kd.C (Kd.int .i64) w A0 l0.length l0) (hc0 : l0.length ≤ c0) (h : impl_allWithin.f k l0 a1 a2 = some r) :
    Calls Try.prog 45 #[.slice A0 l0.length c0, .int .i64 a1, .int .i64 a2] w fun e w' => e = .returned (.bool r) ∧ Drawn0 w w' := by
  have HR0 := Aside0.mk hr0
  have HC0 := Aside0.mk hc0
  clear hr0 hc0
  have H : (impl_allWithin.l0 k a1 a2 l0 (l0.length : Int) 0) = some r := h
  clear h
  have H' := Aside0.mk H
  clear H
  go_enter Try.func45, Try.ntmps45
  go_wp2
  go_loopg [11] k (fun kq v11 w' => ∃ (x11_1 : Int), v11 = .int .i64 x11_1 ∧ Aside0 (impl_allWithin.l0 kq a1 a2 l0 (l0.length : Int) x11_1 = some r) ∧ Aside0 (kq ≤ k) ∧ Drawn0 w w')
  case atStart => exact ⟨(0), (by first | rfl | (simp; done) | (simp [*]; done)), H', ⟨Nat.le_refl _⟩, by repeat (first | exact Drawn0.refl _ | apply Drawn0.step)⟩
  case round =>
    clear H'
    try clear p2
    obtain ⟨x11_1, rfl, HA, HK1, ⟨m1, rfl⟩⟩ := hrel
    cases gk with
    | zero => exact absurd HA.out (by simp [impl_allWithin.l0])
    | succ k1 =>
      have H := HA.out
      clear HA
      simp only [impl_allWithin.l0] at H
      by_cases c4 : x11_1 < (l0.length : Int)
      · rw [if_pos c4] at H
        have c4b0 : decide (x11_1 < (l0.length : Int)) = true := decide_eq_true c4
        clear c4
        by_cases c5 : 0 ≤ x11_1
        · rw [if_pos c5] at H
          have c5b0 : decide (0 ≤ x11_1) = true := decide_eq_true c5
          clear c5
          by_cases c6 : x11_1 < (l0.length : Int)
          · rw [if_pos c6] at H
            have c6b0 : decide (x11_1 < (l0.length : Int)) = true := decide_eq_true c6
            clear c6
            replace H := Option.bind_eq_some_iff.mp H
            obtain ⟨t155, A70, H⟩ := H
            replace H : (if t155 = true then (impl_allWithin.l0 k1 a1 a2 l0 (l0.length : Int) (wrap64 (x11_1 + 1))) else (some false)) = some r := H
            have A7 := Aside0.mk A70
            clear A70
            by_cases c8 : t155 = true
            · subst c8
              have H1 : (impl_allWithin.l0 k1 a1 a2 l0 (l0.length : Int) (wrap64 (x11_1 + 1))) = some r := by rw [if_pos rfl] at H; exact H
              clear H
              have H := H1
              clear H1
              have H' := Aside0.mk H
              clear H
              have p154 : 0 ≤ (x11_1 : Int) := of_decide_eq_true (by first | (with_reducible assumption) | assumption)
              have q154 : x11_1 < (l0.length : Int) := of_decide_eq_true (by first | (with_reducible assumption) | assumption)
              obtain ⟨ad154, e154, hx154_0⟩ := Kd.at_int HR0.out x11_1 p154 q154
              cases e154
              replace p154 := eq_true p154
              replace q154 := eq_true q154
              go_wp2_with (first | ((with_reducible refine gate_callee (f := 29) rfl ?_); refine goesL_ (some 18) rfl rfl Try.func29 (by kernel_rfl) rfl #[.int .i64 (rd l0 x11_1), .int .i64 a1, .int .i64 a2] rfl (by (try simp only [List.map_toArray, List.map_cons, List.map_nil]); first | done | rfl | (simp only [List.length_drop, List.length_take]; rfl)) ?_; (with_reducible refine (impl_within.calls (rd l0 x11_1) a1 a2 true _ A7.out).mono ?_); rintro e w' ⟨rfl, ⟨nd, rfl⟩⟩; refine ⟨_, rfl, ?_⟩))
              go_roundg k1
              case measure => have := HK1.out; omega
              case rel => exact ⟨(wrap64 (x11_1 + 1)), (by first | rfl | (simp; done) | (simp [*]; done)), H', ⟨by have := HK1.out; omega⟩, by repeat (first | exact Drawn0.refl _ | apply Drawn0.step)⟩
            · replace c8 := Bool.eq_false_iff.mpr c8
              subst c8
              have H1 : (some false) = some r := by rw [if_neg (show ¬ (false = true) by decide)] at H; exact H
              clear H
              have H := H1
              clear H1
              obtain rfl := Option.some.inj H
              have p154 : 0 ≤ (x11_1 : Int) := of_decide_eq_true (by first | (with_reducible assumption) | assumption)
              have q154 : x11_1 < (l0.length : Int) := of_decide_eq_true (by first | (with_reducible assumption) | assumption)
              obtain ⟨ad154, e154, hx154_0⟩ := Kd.at_int HR0.out x11_1 p154 q154
              cases e154
              replace p154 := eq_true p154
              replace q154 := eq_true q154
              go_wp2_with (first | ((with_reducible refine gate_callee (f := 29) rfl ?_); refine goesL_ (some 18) rfl rfl Try.func29 (by kernel_rfl) rfl #[.int .i64 (rd l0 x11_1), .int .i64 a1, .int .i64 a2] rfl (by (try simp only [List.map_toArray, List.map_cons, List.map_nil]); first | done | rfl | (simp only [List.length_drop, List.length_take]; rfl)) ?_; (with_reducible refine (impl_within.calls (rd l0 x11_1) a1 a2 false _ A7.out).mono ?_); rintro e w' ⟨rfl, ⟨nd, rfl⟩⟩; refine ⟨_, rfl, ?_⟩))
              go_ret
              exact ⟨by first | rfl | (simp; done) | (simp [*]; done), by repeat (first | exact Drawn0.refl _ | apply Drawn0.step)⟩
          · rw [if_neg c6] at H
            exact absurd H (by simp)
        · rw [if_neg c5] at H
          exact absurd H (by simp)
      · rw [if_neg c4] at H
        have c4b0 : decide (x11_1 < (l0.length : Int)) = false := decide_eq_false c4
        clear c4
        obtain rfl := Option.some.inj H
        go_wp2
        go_ret
        exact ⟨by first | rfl | (simp; done) | (simp [*]; done), by repeat (first | exact Drawn0.refl _ | apply Drawn0.step)⟩

/-! ### impl_AreChapters: function 38 -/
def impl_AreChapters.f (k : Nat) (l0 : List Int) : Option (Bool) := (impl_within.f (l0.length : Int) 1 12).bind fun t156 => (if t156 = true then ((impl_allWithin.f k l0 1 120).bind fun t157 => (some t157)) else (some false))
theorem impl_AreChapters.mono : ∀ a0 k, LeO (impl_AreChapters.f k a0) (impl_AreChapters.f (k + 1) a0) := by
  intro a0 k
  unfold impl_AreChapters.f
  repeat' first
      | (with_reducible exact impl_allWithin.mono _ _ _ _)
      | (with_reducible exact LeO.refl _)
      | (with_reducible exact LeO.none _)
      | (with_reducible refine LeO.ite ?_ ?_)
      | (with_reducible refine LeO.bind ?_ (fun _ => ?_))
      | exact impl_allWithin.mono _ _ _ _
      | exact LeO.none _
      | refine LeO.ite ?_ ?_
      | refine LeO.bind ?_ (fun _ => ?_)
set_option maxHeartbeats 8000000 in
set_option maxRecDepth 100000 in
theorem impl_AreChapters.calls (k : Nat) (A0 : Option Addr) (c0 : Nat) (l0 : List Int) (r : Bool) (w : World) (hr0 : Kd.C (Kd.int .i64) w A0 l0.length l0) (hc0 : l0.length ≤ c0) (h : impl_AreChapters.f k l0 = some r) :
    Calls Try.prog 38 #[.slice A0 l0.length c0] w fun e w' => e = .returned (.bool r) ∧ Drawn0 w w' := by
  have HR0 := Aside0.mk hr0
  have HC0 := Aside0.mk hc0
  clear hr0 hc0
  have H : ((impl_within.f (l0.length : Int) 1 12).bind fun t156 => (if t156 = true then ((impl_allWithin.f k l0 1 120).bind fun t157 => (some t157)) else (some false))) = some r := h
  clear h
  replace H := Option.bind_eq_some_iff.mp H
  obtain ⟨t156, A20, H⟩ := H
  replace H : (if t156 = true then ((impl_allWithin.f k l0 1 120).bind fun t157 => (some t157)) else (some false)) = some r := H
  have A2 := Aside0.mk A20
  clear A20
  by_cases c3 : t156 = true
  · subst c3
    have H1 : ((impl_allWithin.f k l0 1 120).bind fun t157 => (some t157)) = some r := by rw [if_pos rfl] at H; exact H
    clear H
    have H := H1
    clear H1
    replace H := Option.bind_eq_some_iff.mp H
    obtain ⟨t157, A40, H⟩ := H
    replace H : (some t157) = some r := H
    have A4 := Aside0.mk A40
    clear A40
    obtain rfl := Option.some.inj H
    go_enter Try.func38, Try.ntmps38
    go_wp2_with (first | ((with_reducible refine gate_callee (f := 29) rfl ?_); refine goesL_ (some 5) rfl rfl Try.func29 (by kernel_rfl) rfl #[.int .i64 (l0.length : Int), .int .i64 1, .int .i64 12] rfl (by (try simp only [List.map_toArray, List.map_cons, List.map_nil]); first | done | rfl | (simp only [List.length_drop, List.length_take]; rfl)) ?_; (with_reducible refine (impl_within.calls (l0.length : Int) 1 12 true _ A2.out).mono ?_); rintro e w' ⟨rfl, ⟨nd, rfl⟩⟩; refine ⟨_, rfl, ?_⟩) | (go_at_call 45; (with_reducible refine (impl_allWithin.calls k _ _ l0 1 120 t157 _ ?side1 ?side2 A4.out).mono ?_); (case side1 => repeat (first | exact HR0.out | (with_reducible refine Kd.C_alloc ?_ _) | (with_reducible refine Kd.C_drewN ?_ _) | (with_reducible refine Kd.C_drew ?_))); (case side2 => exact HC0.out); rintro e w' ⟨rfl, ⟨nd, rfl⟩⟩))
    go_ret
    exact ⟨by first | rfl | (simp; done) | (simp [*]; done), by repeat (first | exact Drawn0.refl _ | apply Drawn0.step)⟩
  · replace c3 := Bool.eq_false_iff.mpr c3
    subst c3
    have H1 : (some false) = some r := by rw [if_neg (show ¬ (false = true) by decide)] at H; exact H
    clear H
    have H := H1
    clear H1
    obtain rfl := Option.some.inj H
    go_enter Try.func38, Try.ntmps38
    go_wp2_with (first | ((with_reducible refine gate_callee (f := 29) rfl ?_); refine goesL_ (some 5) rfl rfl Try.func29 (by kernel_rfl) rfl #[.int .i64 (l0.length : Int), .int .i64 1, .int .i64 12] rfl (by (try simp only [List.map_toArray, List.map_cons, List.map_nil]); first | done | rfl | (simp only [List.length_drop, List.length_take]; rfl)) ?_; (with_reducible refine (impl_within.calls (l0.length : Int) 1 12 false _ A2.out).mono ?_); rintro e w' ⟨rfl, ⟨nd, rfl⟩⟩; refine ⟨_, rfl, ?_⟩))
    go_ret
    exact ⟨by first | rfl | (simp; done) | (simp [*]; done), by repeat (first | exact Drawn0.refl _ | apply Drawn0.step)⟩

/-! ### impl_MoveChapter: function 27 -/
def impl_MoveChapter.f (k : Nat) (l0 : List Int) (a1 : Int) (a2 : Int) : Option (List Int × Bool) := (impl_AreChapters.f k l0).bind fun t158 => (if t158 = true then ((impl_within.f a1 0 (wrap64 ((l0.length : Int) - 1))).bind fun t159 => (if t159 = true then ((impl_within.f a2 0 (wrap64 ((l0.length : Int) - 1))).bind fun t160 => (if t160 = true then ((impl_moved.f l0 a1 a2).bind fun t161 => (some (t161, true))) else (some (([] : List Int), false)))) else (some (([] : List Int), false)))) else (some (([] : List Int), false)))
theorem impl_MoveChapter.mono : ∀ a0 a1 a2 k, LeO (impl_MoveChapter.f k a0 a1 a2) (impl_MoveChapter.f (k + 1) a0 a1 a2) := by
  intro a0 a1 a2 k
  unfold impl_MoveChapter.f
  repeat' first
      | (with_reducible exact impl_AreChapters.mono _ _)
      | (with_reducible exact LeO.refl _)
      | (with_reducible exact LeO.none _)
      | (with_reducible refine LeO.ite ?_ ?_)
      | (with_reducible refine LeO.bind ?_ (fun _ => ?_))
      | exact impl_AreChapters.mono _ _
      | exact LeO.none _
      | refine LeO.ite ?_ ?_
      | refine LeO.bind ?_ (fun _ => ?_)
set_option maxHeartbeats 8000000 in
set_option maxRecDepth 100000 in
theorem impl_MoveChapter.calls (k : Nat) (A0 : Option Addr) (c0 : Nat) (l0 : List Int) (a1 : Int) (a2 : Int) (r1 : List Int) (r2 : Bool) (w : World) (hr0 : Kd.C (Kd.int .i64) w A0 l0.length l0) (hc0 : l0.length ≤ c0) (h : impl_MoveChapter.f k l0 a1 a2 = some (r1, r2)) :
    Calls Try.prog 27 #[.slice A0 l0.length c0, .int .i64 a1, .int .i64 a2] w fun e w' => ∃ v0_ : Value, e = .returned (.tuple #[v0_, .bool r2]) ∧ Kd.R (Kd.int .i64) 3 w' w.heap.size (fun _ => True) v0_ r1 ∧ Below w.heap.size w w' := by
  have HR0 := Aside0.mk hr0
  have HC0 := Aside0.mk hc0
  clear hr0 hc0
  have HB := Aside0.mk (Below.refl w.heap.size w)
  have H : ((impl_AreChapters.f k l0).bind fun t158 => (if t158 = true then ((impl_within.f a1 0 (wrap64 ((l0.length : Int) - 1))).bind fun t159 => (if t159 = true then ((impl_within.f a2 0 (wrap64 ((l0.length : Int) - 1))).bind fun t160 => (if t160 = true then ((impl_moved.f l0 a1 a2).bind fun t161 => (some (t161, true))) else (some (([] : List Int), false)))) else (some (([] : List Int), false)))) else (some (([] : List Int), false)))) = some (r1, r2) := h
  clear h
  replace H := Option.bind_eq_some_iff.mp H
  obtain ⟨t158, A40, H⟩ := H
  replace H : (if t158 = true then ((impl_within.f a1 0 (wrap64 ((l0.length : Int) - 1))).bind fun t159 => (if t159 = true then ((impl_within.f a2 0 (wrap64 ((l0.length : Int) - 1))).bind fun t160 => (if t160 = true then ((impl_moved.f l0 a1 a2).bind fun t161 => (some (t161, true))) else (some (([] : List Int), false)))) else (some (([] : List Int), false)))) else (some (([] : List Int), false))) = some (r1, r2) := H
  have A4 := Aside0.mk A40
  clear A40
  by_cases c5 : t158 = true
  · subst c5
    have H1 : ((impl_within.f a1 0 (wrap64 ((l0.length : Int) - 1))).bind fun t159 => (if t159 = true then ((impl_within.f a2 0 (wrap64 ((l0.length : Int) - 1))).bind fun t160 => (if t160 = true then ((impl_moved.f l0 a1 a2).bind fun t161 => (some (t161, true))) else (some (([] : List Int), false)))) else (some (([] : List Int), false)))) = some (r1, r2) := by rw [if_pos rfl] at H; exact H
    clear H
    have H := H1
    clear H1
    replace H := Option.bind_eq_some_iff.mp H
    obtain ⟨t159, A60, H⟩ := H
    replace H : (if t159 = true then ((impl_within.f a2 0 (wrap64 ((l0.length : Int) - 1))).bind fun t160 => (if t160 = true then ((impl_moved.f l0 a1 a2).bind fun t161 => (some (t161, true))) else (some (([] : List Int), false)))) else (some (([] : List Int), false))) = some (r1, r2) := H
    have A6 := Aside0.mk A60
    clear A60
    by_cases c7 : t159 = true
    · subst c7
      have H1 : ((impl_within.f a2 0 (wrap64 ((l0.length : Int) - 1))).bind fun t160 => (if t160 = true then ((impl_moved.f l0 a1 a2).bind fun t161 => (some (t161, true))) else (some (([] : List Int), false)))) = some (r1, r2) := by rw [if_pos rfl] at H; exact H
      clear H
      have H := H1
      clear H1
      replace H := Option.bind_eq_some_iff.mp H
      obtain ⟨t160, A80, H⟩ := H
      replace H : (if t160 = true then ((impl_moved.f l0 a1 a2).bind fun t161 => (some (t161, true))) else (some (([] : List Int), false))) = some (r1, r2) := H
      have A8 := Aside0.mk A80
      clear A80
      by_cases c9 : t160 = true
      · subst c9
        have H1 : ((impl_moved.f l0 a1 a2).bind fun t161 => (some (t161, true))) = some (r1, r2) := by rw [if_pos rfl] at H; exact H
        clear H
        have H := H1
        clear H1
        replace H := Option.bind_eq_some_iff.mp H
        obtain ⟨t161, A100, H⟩ := H
        replace H : (some (t161, true)) = some (r1, r2) := H
        have A10 := Aside0.mk A100
        clear A100
        simp only [Option.some.injEq, Prod.mk.injEq] at H
        obtain ⟨rfl, rfl⟩ := H
        go_enter Try.func27, Try.ntmps27
        go_wp2_with (first | ((with_reducible refine gate_callee (f := 38) rfl ?_); refine goesL_ (some 9) rfl rfl Try.func38 (by kernel_rfl) rfl #[.slice A0 l0.length c0] rfl (by (try simp only [List.map_toArray, List.map_cons, List.map_nil]); first | done | rfl | (simp only [List.length_drop, List.length_take]; rfl)) ?_; (with_reducible refine (impl_AreChapters.calls k _ _ l0 true _ ?side1 ?side2 A4.out).mono ?_); (case side1 => repeat (first | exact HR0.out | (with_reducible refine Kd.C_alloc ?_ _) | (with_reducible refine Kd.C_drewN ?_ _) | (with_reducible refine Kd.C_drew ?_))); (case side2 => exact HC0.out); rintro e w' ⟨rfl, ⟨nd, rfl⟩⟩; refine ⟨_, rfl, ?_⟩) | (go_at_call 29; (with_reducible refine (impl_within.calls a1 0 (wrap64 ((l0.length : Int) - 1)) true _ A6.out).mono ?_); rintro e w' ⟨rfl, ⟨nd, rfl⟩⟩) | (go_at_call 29; (with_reducible refine (impl_within.calls a2 0 (wrap64 ((l0.length : Int) - 1)) true _ A8.out).mono ?_); rintro e w' ⟨rfl, ⟨nd, rfl⟩⟩) | ((with_reducible refine gate_callee (f := 36) rfl ?_); refine goesL_ (some 30) rfl rfl Try.func36 (by kernel_rfl) rfl #[.slice A0 l0.length c0, .int .i64 a1, .int .i64 a2] rfl (by (try simp only [List.map_toArray, List.map_cons, List.map_nil]); first | done | rfl | (simp only [List.length_drop, List.length_take]; rfl)) ?_; (with_reducible refine (impl_moved.calls _ _ l0 a1 a2 t161 _ ?side1 ?side2 A10.out).mono ?_); (case side1 => repeat (first | exact HR0.out | (with_reducible refine Kd.C_alloc ?_ _) | (with_reducible refine Kd.C_drewN ?_ _) | (with_reducible refine Kd.C_drew ?_))); (case side2 => exact HC0.out); rintro e w11 ⟨v162, rfl, ho0, hb⟩; refine ⟨_, rfl, ?_⟩; have n0_ := Aside0.mk (Kd.R_lower ho0 (below_size (by repeat (first | (with_reducible first | exact HB.out | apply below_alloc | apply pw_below_drewN | apply below_drew1) | exact HB.out)))); have n1_ := Aside0.mk (below_step (by repeat (first | (with_reducible first | exact HB.out | apply below_alloc | apply pw_below_drewN | apply below_drew1) | exact HB.out)) hb); clear HB; have HO163 := n0_; have HB := n1_; clear n0_ n1_; (try clear hb); (try clear hb2); (try clear hk); (try clear hi); (try clear ho0)))
        go_ret2
        exact ⟨_, by first | rfl | (simp [errW_none, errW_some] <;> rfl) | (simp [*, errW_none, errW_some] <;> rfl), by (with_reducible repeat (first | apply Kd.R_alloc | apply Kd.R_drewN | apply Kd.R_drew)); exact HO163.out, by repeat (first | (with_reducible first | exact HB.out | apply below_alloc | apply pw_below_drewN | apply below_drew1) | exact HB.out)⟩
      · replace c9 := Bool.eq_false_iff.mpr c9
        subst c9
        have H1 : (some (([] : List Int), false)) = some (r1, r2) := by rw [if_neg (show ¬ (false = true) by decide)] at H; exact H
        clear H
        have H := H1
        clear H1
        simp only [Option.some.injEq, Prod.mk.injEq] at H
        obtain ⟨rfl, rfl⟩ := H
        go_enter Try.func27, Try.ntmps27
        go_wp2_with (first | ((with_reducible refine gate_callee (f := 38) rfl ?_); refine goesL_ (some 9) rfl rfl Try.func38 (by kernel_rfl) rfl #[.slice A0 l0.length c0] rfl (by (try simp only [List.map_toArray, List.map_cons, List.map_nil]); first | done | rfl | (simp only [List.length_drop, List.length_take]; rfl)) ?_; (with_reducible refine (impl_AreChapters.calls k _ _ l0 true _ ?side1 ?side2 A4.out).mono ?_); (case side1 => repeat (first | exact HR0.out | (with_reducible refine Kd.C_alloc ?_ _) | (with_reducible refine Kd.C_drewN ?_ _) | (with_reducible refine Kd.C_drew ?_))); (case side2 => exact HC0.out); rintro e w' ⟨rfl, ⟨nd, rfl⟩⟩; refine ⟨_, rfl, ?_⟩) | (go_at_call 29; (with_reducible refine (impl_within.calls a1 0 (wrap64 ((l0.length : Int) - 1)) true _ A6.out).mono ?_); rintro e w' ⟨rfl, ⟨nd, rfl⟩⟩) | (go_at_call 29; (with_reducible refine (impl_within.calls a2 0 (wrap64 ((l0.length : Int) - 1)) false _ A8.out).mono ?_); rintro e w' ⟨rfl, ⟨nd, rfl⟩⟩))
        go_ret2
        exact ⟨_, by first | rfl | (simp [errW_none, errW_some] <;> rfl) | (simp [*, errW_none, errW_some] <;> rfl), by first | exact Kd.R_nil _ _ _ _ _ | exact Kd.N_nil _ _ _ _ _ | exact Kd.V_nil _ _ _ _ _ | exact Kd.Q_nil _ _ _ _ _ | exact Kd.S_nil _ _ _ _ _, by repeat (first | (with_reducible first | exact HB.out | apply below_alloc | apply pw_below_drewN | apply below_drew1) | exact HB.out)⟩
    · replace c7 := Bool.eq_false_iff.mpr c7
      subst c7
      have H1 : (some (([] : List Int), false)) = some (r1, r2) := by rw [if_neg (show ¬ (false = true) by decide)] at H; exact H
      clear H
      have H := H1
      clear H1
      simp only [Option.some.injEq, Prod.mk.injEq] at H
      obtain ⟨rfl, rfl⟩ := H
      go_enter Try.func27, Try.ntmps27
      go_wp2_with (first | ((with_reducible refine gate_callee (f := 38) rfl ?_); refine goesL_ (some 9) rfl rfl Try.func38 (by kernel_rfl) rfl #[.slice A0 l0.length c0] rfl (by (try simp only [List.map_toArray, List.map_cons, List.map_nil]); first | done | rfl | (simp only [List.length_drop, List.length_take]; rfl)) ?_; (with_reducible refine (impl_AreChapters.calls k _ _ l0 true _ ?side1 ?side2 A4.out).mono ?_); (case side1 => repeat (first | exact HR0.out | (with_reducible refine Kd.C_alloc ?_ _) | (with_reducible refine Kd.C_drewN ?_ _) | (with_reducible refine Kd.C_drew ?_))); (case side2 => exact HC0.out); rintro e w' ⟨rfl, ⟨nd, rfl⟩⟩; refine ⟨_, rfl, ?_⟩) | (go_at_call 29; (with_reducible refine (impl_within.calls a1 0 (wrap64 ((l0.length : Int) - 1)) false _ A6.out).mono ?_); rintro e w' ⟨rfl, ⟨nd, rfl⟩⟩))
      go_ret2
      exact ⟨_, by first | rfl | (simp [errW_none, errW_some] <;> rfl) | (simp [*, errW_none, errW_some] <;> rfl), by first | exact Kd.R_nil _ _ _ _ _ | exact Kd.N_nil _ _ _ _ _ | exact Kd.V_nil _ _ _ _ _ | exact Kd.Q_nil _ _ _ _ _ | exact Kd.S_nil _ _ _ _ _, by repeat (first | (with_reducible first | exact HB.out | apply below_alloc | apply pw_below_drewN | apply below_drew1) | exact HB.out)⟩
  · replace c5 := Bool.eq_false_iff.mpr c5
    subst c5
    have H1 : (some (([] : List Int), false)) = some (r1, r2) := by rw [if_neg (show ¬ (false = true) by decide)] at H; exact H
    clear H
    have H := H1
    clear H1
    simp only [Option.some.injEq, Prod.mk.injEq] at H
    obtain ⟨rfl, rfl⟩ := H
    go_enter Try.func27, Try.ntmps27
    go_wp2_with (first | ((with_reducible refine gate_callee (f := 38) rfl ?_); refine goesL_ (some 9) rfl rfl Try.func38 (by kernel_rfl) rfl #[.slice A0 l0.length c0] rfl (by (try simp only [List.map_toArray, List.map_cons, List.map_nil]); first | done | rfl | (simp only [List.length_drop, List.length_take]; rfl)) ?_; (with_reducible refine (impl_AreChapters.calls k _ _ l0 false _ ?side1 ?side2 A4.out).mono ?_); (case side1 => repeat (first | exact HR0.out | (with_reducible refine Kd.C_alloc ?_ _) | (with_reducible refine Kd.C_drewN ?_ _) | (with_reducible refine Kd.C_drew ?_))); (case side2 => exact HC0.out); rintro e w' ⟨rfl, ⟨nd, rfl⟩⟩; refine ⟨_, rfl, ?_⟩))
    go_ret2
    exact ⟨_, by first | rfl | (simp [errW_none, errW_some] <;> rfl) | (simp [*, errW_none, errW_some] <;> rfl), by first | exact Kd.R_nil _ _ _ _ _ | exact Kd.N_nil _ _ _ _ _ | exact Kd.V_nil _ _ _ _ _ | exact Kd.Q_nil _ _ _ _ _ | exact Kd.S_nil _ _ _ _ _, by repeat (first | (with_reducible first | exact HB.out | apply below_alloc | apply pw_below_drewN | apply below_drew1) | exact HB.out)⟩

end Go.Proofs.Ytlolifijdeenjaa.XFnExactMoveChapter
