-- Written by a program of this session: the machine side of the law FnExactOrderOnDay, with contracts proved by hand for what the kit's print doesn't take. Lean checks it.
import Derived.Test.YtpakdddehianmaaXFnExactOrderOnDayx0
import Derived.Test.YtpakdddehianmaaXFnExactOrderOnDayx3
namespace Go.Proofs.Ytpakdddehianmaa.XFnExactOrderOnDay
open Go.RowKit Go.Proofs.YtpakdddehianmaaW.PrintWords Go.Proofs.YtpakdddehianmaaW.PrintLast Go.Proofs.YtpakdddehianmaaW.PrintMore
attribute [local go_sem] max2_int min2_int max_two min_two max_three min_three max_four min_four   -- for this text's walks alone
set_option linter.unusedVariables false
set_option linter.unusedSimpArgs false


/-! ### impl_OrderOnDay: function 7: by hand -/
/-- The last page that is read behind so many days, if the book does not end. -/
def impl_OrderOnDay.aft (x : S39) (day : Int) : Int := x.f0 + x.f1 * (day - (if x.f2 > 0 then day / x.f2 else 0))
/-- .. and where it ends. -/
def impl_OrderOnDay.key (pages : Int) (rs : List S39) (day : Int) (i : Nat) : Int := min pages (impl_OrderOnDay.aft (rs.getD i ⟨0, 0, 0⟩) day)
/-- An element put among those ahead of it, the last one first: it goes on while it is less. -/
def impl_OrderOnDay.ins {α : Type} (lt : α → α → Bool) (x : α) : List α → List α
  | [] => [x]
  | y :: t => if lt x y = true then y :: impl_OrderOnDay.ins lt x t else x :: y :: t
def impl_OrderOnDay.ord (pages : Int) (rs : List S39) (day : Int) : List Int := (((List.range rs.length).foldl (fun r x => impl_OrderOnDay.ins (fun x y => decide (impl_OrderOnDay.key pages rs day y < impl_OrderOnDay.key pages rs day x)) x r) []).reverse).map (fun (i : Nat) => (i : Int))
def impl_OrderOnDay.f (a0 : Int) (l1 : List S39) (a2 : Int) : Option (List Int × Bool) := (impl_areReadersOf.f a0 l1).bind fun t1 => (if t1 = true then ((impl_isGroup.f l1).bind fun t2 => (if t2 = true then ((impl_isDays.f a2).bind fun t3 => (if t3 = true then (if (0 ≤ a0 ∧ a0 ≤ 2000) ∧ (0 ≤ a2 ∧ a2 ≤ 3000) ∧ (1 ≤ l1.length ∧ l1.length ≤ 6) ∧ l1.all impl_goodR = true then (some (impl_OrderOnDay.ord a0 l1 a2, true)) else (none)) else (some (([] : List Int), false)))) else (some (([] : List Int), false)))) else (some (([] : List Int), false)))
theorem impl_OrderOnDay.mulw {b q : Int} (hb : 1 ≤ b ∧ b ≤ 200) (hq : 0 ≤ q ∧ q ≤ 3000) : 0 ≤ b * q ∧ b * q ≤ 600000 := by
  refine ⟨Int.mul_nonneg (by omega) hq.1, ?_⟩
  have h1 : b * q ≤ 200 * q := Int.mul_le_mul_of_nonneg_right hb.2 hq.1
  omega
open Go.Sort in
theorem impl_OrderOnDay.boxed (W : World) (o : Obj) : ∃ q os', W.alloc o = grow (W.drewN q) os' := ⟨0, #[o], by rw [alloc_eq_grow]; rfl⟩
theorem impl_OrderOnDay.ret_int {a b : Int} (h : a = b) : Ending.returned (.int .i64 a) = .returned (.int .i64 b) := by rw [h]
theorem impl_OrderOnDay.add_add (ad : Addr) (i j : Nat) : (ad.add i).add j = ad.add (i + j) := by
  unfold Addr.add
  by_cases h1 : i = 0 <;> by_cases h2 : j = 0 <;> simp [h1, h2, Nat.add_assoc]
open Go.Sort in
set_option maxHeartbeats 1000000 in
set_option maxRecDepth 100000 in
theorem impl_OrderOnDay.after_calls (x : S39) (hx : impl_goodR x = true) (day : Int) (hd : 0 ≤ day ∧ day ≤ 3000) (W : World) :
    Calls Try.prog 24 #[.agg #[.int .i64 x.f0, .int .i64 x.f1, .int .i64 x.f2], .int .i64 day] W fun e w' => e = .returned (.int .i64 (impl_OrderOnDay.aft x day)) ∧ ∃ q os', w' = grow (W.drewN q) os' := by
  have hu := Try.underlying39
  obtain ⟨a, b, c⟩ := x
  simp only [impl_goodR, Bool.and_eq_true, Bool.or_eq_true, decide_eq_true_eq] at hx
  unfold impl_OrderOnDay.aft
  simp only
  by_cases h : c > 0
  · rw [if_pos h]
    have hq : 0 ≤ day / c ∧ day / c ≤ day := ⟨Int.ediv_nonneg hd.1 (by omega), Int.ediv_le_self _ hd.1⟩
    have hm := impl_OrderOnDay.mulw hx.2.1 (q := day - day / c) (by omega)
    have e : wrap64 (a + wrap64 (b * wrap64 (day - day / c))) = a + b * (day - day / c) := by
      generalize day / c = q at hq hm
      have e1 : wrap64 (day - q) = day - q := by unfold wrap64; omega
      rw [e1]
      generalize b * (day - q) = y at hm
      have e2 : wrap64 y = y := by unfold wrap64; omega
      rw [e2]
      unfold wrap64
      omega
    have E := Aside0.mk e
    clear e hm hq
    go_enter Try.func24, Try.ntmps24
    go_wp2
    go_ret
    exact ⟨impl_OrderOnDay.ret_int E.out, impl_OrderOnDay.boxed _ _⟩
  · rw [if_neg h]
    have hm := impl_OrderOnDay.mulw hx.2.1 (q := day) (by omega)
    rw [Int.sub_zero]
    have e : wrap64 (a + wrap64 (b * day)) = a + b * day := by
      generalize b * day = y at hm
      have e2 : wrap64 y = y := by unfold wrap64; omega
      rw [e2]
      unfold wrap64
      omega
    have E := Aside0.mk e
    clear e hm
    go_enter Try.func24, Try.ntmps24
    go_wp2
    go_ret
    exact ⟨impl_OrderOnDay.ret_int E.out, impl_OrderOnDay.boxed _ _⟩
theorem impl_OrderOnDay.aft_bd {x : S39} (hx : impl_goodR x = true) {day : Int} (hd : 0 ≤ day ∧ day ≤ 3000) : 0 ≤ impl_OrderOnDay.aft x day ∧ impl_OrderOnDay.aft x day ≤ 700000 := by
  obtain ⟨a, b, c⟩ := x
  simp only [impl_goodR, Bool.and_eq_true, Bool.or_eq_true, decide_eq_true_eq] at hx
  unfold impl_OrderOnDay.aft
  simp only
  by_cases h : c > 0
  · rw [if_pos h]
    have hq : 0 ≤ day / c ∧ day / c ≤ day := ⟨Int.ediv_nonneg hd.1 (by omega), Int.ediv_le_self _ hd.1⟩
    have hm := impl_OrderOnDay.mulw hx.2.1 (q := day - day / c) (by omega)
    omega
  · rw [if_neg h, Int.sub_zero]
    have hm := impl_OrderOnDay.mulw hx.2.1 (q := day) (by omega)
    omega
open Go.Sort in
set_option maxHeartbeats 2000000 in
set_option maxRecDepth 100000 in
theorem impl_OrderOnDay.clos_calls (pages day : Int) (hpg : 0 ≤ pages ∧ pages ≤ 2000) (hd : 0 ≤ day ∧ day ≤ 3000) (rs : List S39) (hrs : rs.all impl_goodR = true) (ad : Addr) (c : Nat) (bp br bd : Nat) (i j : Nat) (hi : i < rs.length) (hj : j < rs.length) (W : World) (hC : Kd.C k39 W (some ad) rs.length rs)
    (h1 : W.cell? ⟨bp, 0, none⟩ = some (.int .i64 pages)) (h2 : W.cell? ⟨br, 0, none⟩ = some (.slice (some ad) rs.length c)) (h3 : W.cell? ⟨bd, 0, none⟩ = some (.int .i64 day)) :
    Calls Try.prog 23 (#[.int .i64 (i : Int), .int .i64 (j : Int)] ++ #[.pointer (some ⟨bp, 0, none⟩), .pointer (some ⟨br, 0, none⟩), .pointer (some ⟨bd, 0, none⟩)]) W fun e w' => e = .returned (.int .i64 (impl_OrderOnDay.key pages rs day j - impl_OrderOnDay.key pages rs day i)) ∧ ∃ q os', w' = grow (W.drewN q) os' := by
  have hu := Try.underlying39
  have f1 := cell_grown (World.block_lt_of_cell? W _ h1) h1
  have f2 := cell_grown (World.block_lt_of_cell? W _ h2) h2
  have f3 := cell_grown (World.block_lt_of_cell? W _ h3) h3
  show Calls Try.prog 23 #[.int .i64 (i : Int), .int .i64 (j : Int), .pointer (some ⟨bp, 0, none⟩), .pointer (some ⟨br, 0, none⟩), .pointer (some ⟨bd, 0, none⟩)] W _
  have mixed : Try.prog.follows .mixedOrders = true := by kernel_rfl
  have key : ∀ k, k < rs.length → ∃ x : S39, x = rs.getD k ⟨0, 0, 0⟩ ∧ impl_goodR x = true ∧ (∀ n os, (grow (W.drewN n) os).cell? (ad.add (k * 3)) = some (.int .i64 x.f0)) ∧ (∀ n os, (grow (W.drewN n) os).cell? ⟨(ad.add (k * 3)).block, (ad.add (k * 3)).off + 1, none⟩ = some (.int .i64 x.f1)) ∧ (∀ n os, (grow (W.drewN n) os).cell? ⟨(ad.add (k * 3)).block, (ad.add (k * 3)).off + 2, none⟩ = some (.int .i64 x.f2)) := by
    intro k hk
    obtain ⟨ad', cs, e, hl, hK, hcell⟩ := Kd.C_get hC (⟨0, 0, 0⟩ : S39) (k : Int) (by omega) (by omega)
    injection e with e
    subst e
    rw [Int.toNat_natCast] at hK hcell
    have hcs := k39_open hK
    subst hcs
    have q0 := hcell 0 _ rfl
    have q1 := hcell 1 _ rfl
    have q2 := hcell 2 _ rfl
    rw [show k39.sz = 3 from rfl] at q0 q1 q2
    rw [Nat.add_zero] at q0
    rw [add_field ad (k * 3) 1 (by omega)] at q1
    rw [add_field ad (k * 3) 2 (by omega)] at q2
    refine ⟨_, rfl, ?_, cell_grown (World.block_lt_of_cell? W _ q0) q0, cell_grown (World.block_lt_of_cell? W _ q1) q1, cell_grown (World.block_lt_of_cell? W _ q2) q2⟩
    rw [List.getD_eq_getElem?_getD, List.getElem?_eq_getElem hk]
    exact (List.all_eq_true.1 hrs) _ (List.getElem_mem hk)
  obtain ⟨xi, exi, gi, li0, li1, li2⟩ := key i hi
  obtain ⟨xj, exj, gj, lj0, lj1, lj2⟩ := key j hj
  have HI := Aside0.mk (fun W => impl_OrderOnDay.after_calls xi gi day hd W)
  have HJ := Aside0.mk (fun W => impl_OrderOnDay.after_calls xj gj day hd W)
  have bi : 0 ≤ impl_OrderOnDay.aft xi day ∧ impl_OrderOnDay.aft xi day ≤ 700000 := impl_OrderOnDay.aft_bd gi hd
  have bj : 0 ≤ impl_OrderOnDay.aft xj day ∧ impl_OrderOnDay.aft xj day ≤ 700000 := impl_OrderOnDay.aft_bd gj hd
  have hk : impl_OrderOnDay.key pages rs day j - impl_OrderOnDay.key pages rs day i = min pages (impl_OrderOnDay.aft xj day) - min pages (impl_OrderOnDay.aft xi day) := by unfold impl_OrderOnDay.key; rw [← exi, ← exj]
  rw [hk]
  generalize impl_OrderOnDay.aft xi day = ai at HI bi
  generalize impl_OrderOnDay.aft xj day = aj at HJ bj
  have hii : (i : Int) < (rs.length : Int) := by omega
  have hjj : (j : Int) < (rs.length : Int) := by omega
  clear key hk exi exj gi gj h1 h2 h3 hC hi hj hrs
  go_enter Try.func23, Try.ntmps23
  go_wp2
  refine wp_region_quiet_grown (by assumption) (by kernel_rfl) ?_
  repeat (quiet_step (fail))
  quiet_step (exact Calls.grown_of (HJ.out _))
  repeat (quiet_step (fail))
  quiet_step (exact Calls.grown_of (HI.out _))
  repeat (quiet_step (fail))
  refine wpQuiet_nil ?_
  intro _ hw'
  obtain ⟨⟨nq, osq⟩, hw''⟩ := hw'
  subst hw''
  go_wp2
  all_goals
    go_ret
    refine ⟨impl_OrderOnDay.ret_int ?_, nq, osq, rfl⟩
    rw [IntKind.wrap_i64]
    omega
/-- What the sort's world keeps: all but the row. -/
theorem impl_OrderOnDay.sw_grown {α : Type} [Inhabited α] {enc : α → Value} {w2 W : World} {g : Nat} {d : Array α} (h : Go.Proofs.SW enc w2 g 0 d W) : w2.grownBy W (some g) := by
  obtain ⟨n, os, rfl⟩ := h
  refine ⟨rfl, rfl, rfl, ?_, fun k hk hne => ?_⟩
  · show w2.heap.size ≤ ((w2.heap.modify g _) ++ os).size
    rw [Array.size_append, Array.size_modify]
    omega
  · show ((w2.heap.modify g _) ++ os)[k]? = _
    rw [Array.getElem?_append, if_pos (by rw [Array.size_modify]; exact hk), Array.getElem?_modify, if_neg (fun e => hne (by rw [e]))]
theorem impl_OrderOnDay.putRow_map {m : Nat} (W : World) (g : Nat) (d : Array (Fin (m + 1))) : Go.Sort.putRow (fun i : Fin (m + 1) => Value.int .i64 (i.val : Int)) W g 0 d = Go.Sort.putRow (Value.int .i64) W g 0 (d.map fun i => (i.val : Int)) := by
  unfold Go.Sort.putRow
  refine Go.Sort.mapBlock_congr _ _ _ _ (fun c e fr _ => ?_)
  unfold Go.Sort.putCells
  rw [Array.size_map]
  congr 1
  funext k x
  by_cases h : 0 ≤ k ∧ k < 0 + d.size
  · rw [if_pos h, if_pos h, getElem!_pos d (k - 0) (by omega), getElem!_pos (d.map _) (k - 0) (by rw [Array.size_map]; omega), Array.getElem_map]
  · rw [if_neg h, if_neg h]
/-- A row of whole numbers of the call's own, its cells overwritten from one place on. -/
def impl_OrderOnDay.over : List Int → Nat → List Int → List Int
  | xs, _, [] => xs
  | xs, o, v :: vs => impl_OrderOnDay.over (xs.set o v) (o + 1) vs
theorem impl_OrderOnDay.over_eq : ∀ (vs xs : List Int) (o : Nat), o + vs.length ≤ xs.length → impl_OrderOnDay.over xs o vs = xs.take o ++ vs ++ xs.drop (o + vs.length)
  | [], xs, o, _ => by simp [impl_OrderOnDay.over]
  | v :: vs, xs, o, h => by
    rw [List.length_cons] at h
    rw [impl_OrderOnDay.over, impl_OrderOnDay.over_eq vs (xs.set o v) (o + 1) (by rw [List.length_set]; omega), List.take_set, List.drop_set_of_lt (by omega), List.length_cons, show o + 1 + vs.length = o + (vs.length + 1) by omega]
    congr 1
    rw [List.take_succ_eq_append_getElem (show o < xs.length by omega), List.set_append_right _ _ (by rw [List.length_take]; omega)]
    simp [List.length_take, Nat.min_eq_left (show o ≤ xs.length by omega)]
theorem impl_OrderOnDay.sets {e base g n cap : Nat} {ok : Nat → Prop} : ∀ (vs : List Int) (o : Nat) (W : World) (xs : List Int), Kd.R (Kd.int .i64) e W base ok (.slice (some ⟨g, 0, none⟩) n cap) xs →
    Kd.R (Kd.int .i64) e (W.setCells g o (vs.map (Value.int .i64))) base ok (.slice (some ⟨g, 0, none⟩) n cap) (impl_OrderOnDay.over xs o vs)
  | [], _, _, _, h => h
  | v :: vs, o, W, xs, h => by
    rw [List.map_cons, World.setCells, impl_OrderOnDay.over]
    exact impl_OrderOnDay.sets vs (o + 1) _ _ (Kd.R_putn h (o : Int) v)
theorem impl_OrderOnDay.holds {e base g n cap : Nat} {ok : Nat → Prop} {W : World} {xs : List Int} (h : Kd.R (Kd.int .i64) e W base ok (.slice (some ⟨g, 0, none⟩) n cap) xs) : xs.length = n ∧ n ≤ cap ∧ cap ≤ maxLen ∧ Go.Sort.Holds (Value.int .i64) W g 0 xs.toArray := by
  obtain ⟨rfl, _⟩ := Kd.R_reads' h
  obtain ⟨inner, ho⟩ := Kd.R_own h
  have hc : xs.length ≤ cap ∧ cap ≤ maxLen := by
    rcases ho.2 with ⟨e0, _⟩ | ⟨g', cap', cur, e0, _, _, hn, hm, _⟩
    · cases e0
    · injection e0 with _ _ e1
      subst e1
      exact ⟨hn, hm⟩
  refine ⟨rfl, hc.1, hc.2, fun j hj => ?_⟩
  rw [List.size_toArray] at hj
  have h2 := Kd.R_celln (0 : Int) h (j : Int) (by omega) (by omega)
  rw [Int.toNat_natCast] at h2
  rw [Nat.zero_add]
  refine ⟨?_, h2.2⟩
  rw [h2.1]
  congr 1
  show (Value.int .i64 (rdOf (0 : Int) xs (j : Int))) = _
  congr 1
  rw [getElem!_pos xs.toArray j (by simpa using hj)]
  simp [rdOf, List.getD_eq_getElem?_getD, hj]
/-- The row behind the sort. -/
theorem impl_OrderOnDay.sw_row {m e base g n cap : Nat} {W0 W : World} {xs : List Int} {d : Array (Fin (m + 1))} (h : Kd.R (Kd.int .i64) e W0 base (fun _ => True) (.slice (some ⟨g, 0, none⟩) n cap) xs) (hd : d.size = n)
    (hs : Go.Proofs.SW (fun i : Fin (m + 1) => Value.int .i64 (i.val : Int)) W0 g 0 d W) : Kd.R (Kd.int .i64) e W base (fun _ => True) (.slice (some ⟨g, 0, none⟩) n cap) (d.toList.map fun i => (i.val : Int)) := by
  obtain ⟨hl, _, _, _⟩ := impl_OrderOnDay.holds h
  obtain ⟨q, os, rfl⟩ := hs
  have hq : Kd.R (Kd.int .i64) e (Go.Sort.ahead W0 q) base (fun _ => True) (.slice (some ⟨g, 0, none⟩) n cap) xs := Kd.R_move h (fun _ _ => rfl)
  have hH2 := (impl_OrderOnDay.holds hq).2.2.2
  have hv : (d.toList.map fun i => (i.val : Int)).length = xs.length := by rw [List.length_map, Array.length_toList]; omega
  have hw : Go.Sort.putRow (fun i : Fin (m + 1) => Value.int .i64 (i.val : Int)) (Go.Sort.ahead W0 q) g 0 d = (Go.Sort.ahead W0 q).setCells g 0 ((d.toList.map fun i => (i.val : Int)).map (Value.int .i64)) := by
    have h3 := Go.Lib.putRow_setCells (Value.int .i64) (Go.Sort.ahead W0 q) g 0 (d.toList.map fun i => (i.val : Int)) xs.toArray 0 (by rw [hv]; simp)
    rw [Go.Sort.putRow_self _ _ _ _ _ hH2, Go.Lib.lay_all _ _ (by rw [hv]; simp)] at h3
    rw [impl_OrderOnDay.putRow_map, h3]
    congr 1
    apply Array.ext'
    simp
  unfold Go.Proofs.sortWorld
  rw [hw]
  have hs2 := impl_OrderOnDay.sets (d.toList.map fun i => (i.val : Int)) 0 _ _ hq
  rw [impl_OrderOnDay.over_eq _ _ _ (by rw [hv]; omega), List.take_zero, List.nil_append, List.drop_of_length_le (by rw [hv]; omega), List.append_nil] at hs2
  refine Kd.R_step hs2 (fun k _ hk => ?_)
  exact Go.Sort.heap_grow_old _ _ hk
/-! the sort, as lists -/
theorem impl_OrderOnDay.inner_is {α : Type} [Inhabited α] (lt : α → α → Bool) (x : α) : ∀ (r s : List α) (d : Array α), d.toList = r.reverse ++ [x] ++ s → (Go.Sort.insInner lt 0 r.length d).toList = (impl_OrderOnDay.ins lt x r).reverse ++ s
  | [], s, d, h => by rw [List.length_nil, Go.Sort.insInner, h]; rfl
  | y :: t, s, d, h => by
    have hsz : d.size = t.length + 1 + 1 + s.length := by
      rw [← Array.length_toList, h]
      simp
      omega
    have hx : d[t.length + 1]! = x := by
      rw [getElem!_pos d (t.length + 1) (by omega), ← Array.getElem_toList]
      simp only [h]
      rw [List.getElem_append_left (by simp), List.getElem_append_right (by simp)]
      simp
    have hy : d[t.length]! = y := by
      rw [getElem!_pos d t.length (by omega), ← Array.getElem_toList]
      simp only [h]
      rw [List.getElem_append_left (by simp), List.getElem_append_left (by simp)]
      simp [List.reverse_cons]
    rw [List.length_cons, Go.Sort.insInner, hx, hy]
    by_cases c : lt x y = true
    · rw [if_pos (by simp [c])]
      rw [impl_OrderOnDay.ins, if_pos c, List.reverse_cons]
      have h2 : (Go.Sort.swp d (t.length + 1) t.length).toList = t.reverse ++ [x] ++ ([y] ++ s) := by
        unfold Go.Sort.swp
        rw [hx, hy, Array.toList_setIfInBounds, Array.toList_setIfInBounds, h, List.reverse_cons]
        apply List.ext_getElem?
        intro k
        rw [List.getElem?_set, List.getElem?_set]
        by_cases k1 : t.length = k
        · subst k1
          rw [if_pos rfl]
          simp
        · rw [if_neg k1]
          by_cases k2 : t.length + 1 = k
          · subst k2
            rw [if_pos rfl]
            simp [List.getElem?_append]
          · rw [if_neg k2]
            by_cases k3 : k < t.length
            · simp [List.getElem?_append, k3, show k < t.length + 1 by omega, show k < t.length + 1 + 1 by omega]
            · simp [List.getElem?_append, show ¬ k < t.length by omega, show ¬ k < t.length + 1 by omega, show ¬ k < t.length + 1 + 1 by omega, show ¬ k - t.length = 0 by omega, show ¬ k - (t.length + 1) = 0 by omega]
              obtain ⟨j, hj⟩ : ∃ j, k - t.length = j + 2 := ⟨k - t.length - 2, by omega⟩
              rw [hj]
              rfl
      rw [impl_OrderOnDay.inner_is lt x t ([y] ++ s) _ h2]
      simp
    · rw [if_neg (by simp [c]), impl_OrderOnDay.ins, if_neg c, h]
      simp
theorem impl_OrderOnDay.ins_len {α : Type} (lt : α → α → Bool) (x : α) : ∀ r : List α, (impl_OrderOnDay.ins lt x r).length = r.length + 1
  | [] => rfl
  | y :: t => by
    rw [impl_OrderOnDay.ins]
    split
    · rw [List.length_cons, impl_OrderOnDay.ins_len lt x t, List.length_cons]
    · rfl
theorem impl_OrderOnDay.outer_is {α : Type} [Inhabited α] (lt : α → α → Bool) (n : Nat) : ∀ (s r : List α) (d : Array α), d.toList = r.reverse ++ s → r.length + s.length = n → (Go.Sort.insOuter lt 0 n r.length d).toList = (s.foldl (fun r x => impl_OrderOnDay.ins lt x r) r).reverse
  | [], r, d, h, hn => by
    rw [Go.Sort.insOuter, if_neg (by simp at hn; omega), h]
    simp
  | x :: s, r, d, h, hn => by
    rw [List.length_cons] at hn
    rw [Go.Sort.insOuter, if_pos (by omega), List.foldl_cons]
    have h1 := impl_OrderOnDay.inner_is lt x r s d (by rw [h]; simp)
    have h2 := impl_OrderOnDay.outer_is lt n s (impl_OrderOnDay.ins lt x r) (Go.Sort.insInner lt 0 r.length d) h1 (by rw [impl_OrderOnDay.ins_len]; omega)
    rw [impl_OrderOnDay.ins_len] at h2
    exact h2
theorem impl_OrderOnDay.sort_is {α : Type} [Inhabited α] (lt : α → α → Bool) (d : Array α) (hd : 1 ≤ d.size) : (Go.Sort.insertionSort lt d 0 d.size).toList = (d.toList.foldl (fun r x => impl_OrderOnDay.ins lt x r) []).reverse := by
  unfold Go.Sort.insertionSort
  have hl : d.toList.length = d.size := Array.length_toList
  cases hc : d.toList with
  | nil => rw [hc] at hl; simp at hl; omega
  | cons x s =>
    rw [hc, List.length_cons] at hl
    rw [List.foldl_cons]
    exact impl_OrderOnDay.outer_is lt d.size s [x] d (by rw [hc]; rfl) (by simp; omega)
theorem impl_OrderOnDay.ins_map {α β : Type} (f : α → β) (lt : α → α → Bool) (lt' : β → β → Bool) (h : ∀ x y, lt x y = lt' (f x) (f y)) (x : α) : ∀ r : List α, (impl_OrderOnDay.ins lt x r).map f = impl_OrderOnDay.ins lt' (f x) (r.map f)
  | [] => rfl
  | y :: t => by
    rw [impl_OrderOnDay.ins, List.map_cons, impl_OrderOnDay.ins, h]
    split
    · rw [List.map_cons, impl_OrderOnDay.ins_map f lt lt' h x t]
    · rfl
theorem impl_OrderOnDay.fold_map {α β : Type} (f : α → β) (lt : α → α → Bool) (lt' : β → β → Bool) (h : ∀ x y, lt x y = lt' (f x) (f y)) : ∀ (s r : List α), (s.foldl (fun r x => impl_OrderOnDay.ins lt x r) r).map f = (s.map f).foldl (fun r x => impl_OrderOnDay.ins lt' x r) (r.map f)
  | [], _ => rfl
  | x :: s, r => by rw [List.foldl_cons, List.map_cons, List.foldl_cons, impl_OrderOnDay.fold_map f lt lt' h s, impl_OrderOnDay.ins_map f lt lt' h]
theorem impl_OrderOnDay.fold_len {α : Type} (lt : α → α → Bool) : ∀ (s r : List α), (s.foldl (fun r x => impl_OrderOnDay.ins lt x r) r).length = r.length + s.length
  | [], _ => rfl
  | x :: s, r => by rw [List.foldl_cons, impl_OrderOnDay.fold_len lt s, impl_OrderOnDay.ins_len, List.length_cons]; omega
theorem impl_OrderOnDay.ord_len (pages day : Int) (rs : List S39) : (impl_OrderOnDay.ord pages rs day).length = rs.length := by
  unfold impl_OrderOnDay.ord
  rw [List.length_map, List.length_reverse, impl_OrderOnDay.fold_len, List.length_range, List.length_nil]
  omega
/-- The sort's answer at the places 0, 1, .. -/
theorem impl_OrderOnDay.answer (pages day : Int) (rs : List S39) (m : Nat) (hm : rs.length = m + 1) :
    ((Go.Sort.insertionSort (Go.Proofs.ltOf (fun x y : Fin (m + 1) => impl_OrderOnDay.key pages rs day y.val - impl_OrderOnDay.key pages rs day x.val)) (Array.ofFn (n := m + 1) id) 0 (Array.ofFn (n := m + 1) (id : Fin (m + 1) → Fin (m + 1))).size).toList.map fun i => (i.val : Int)) = impl_OrderOnDay.ord pages rs day := by
  have hsz : (Array.ofFn (n := m + 1) (id : Fin (m + 1) → Fin (m + 1))).size = m + 1 := by simp
  rw [impl_OrderOnDay.sort_is _ _ (by rw [hsz]; omega)]
  unfold impl_OrderOnDay.ord
  have e : (fun i : Fin (m + 1) => (i.val : Int)) = (fun (i : Nat) => (i : Int)) ∘ (fun i : Fin (m + 1) => i.val) := rfl
  rw [e, ← List.map_map, List.map_reverse, impl_OrderOnDay.fold_map (fun i : Fin (m + 1) => i.val) _ (fun x y => decide (impl_OrderOnDay.key pages rs day y < impl_OrderOnDay.key pages rs day x)) (fun x y => ?_)]
  · rw [hm]
    congr 4
    rw [Array.toList_ofFn]
    apply List.ext_getElem
    · simp
    · intro i h1 h2
      rw [List.getElem_map, List.getElem_ofFn, List.getElem_range]
      rfl
  · show decide (impl_OrderOnDay.key pages rs day y.val - impl_OrderOnDay.key pages rs day x.val < 0) = decide (impl_OrderOnDay.key pages rs day y.val < impl_OrderOnDay.key pages rs day x.val)
    rw [decide_eq_decide]
    omega
set_option maxHeartbeats 2000000 in
set_option maxRecDepth 100000 in
/-- The comparison in every world that the sort passes through. -/
theorem impl_OrderOnDay.lays {w w2 : World} (pages day : Int) (hpg : 0 ≤ pages ∧ pages ≤ 2000) (hd : 0 ≤ day ∧ day ≤ 3000) (rs : List S39) (m : Nat) (hm : rs.length = m + 1) (hrs : rs.all impl_goodR = true) (ad : Addr) (c : Nat) (bp br bd g : Nat)
    (hC : Kd.C k39 w (some ad) rs.length rs) (hB : Below w.heap.size w w2) (hg : w.heap.size ≤ g) (np : bp ≠ g) (nr : br ≠ g) (nd : bd ≠ g)
    (h1 : w2.cell? ⟨bp, 0, none⟩ = some (.int .i64 pages)) (h2 : w2.cell? ⟨br, 0, none⟩ = some (.slice (some ad) rs.length c)) (h3 : w2.cell? ⟨bd, 0, none⟩ = some (.int .i64 day)) :
    Go.Proofs.CmpLays1 Try.prog 23 #[.pointer (some ⟨bp, 0, none⟩), .pointer (some ⟨br, 0, none⟩), .pointer (some ⟨bd, 0, none⟩)] (fun i : Fin (m + 1) => Value.int .i64 (i.val : Int)) (fun x y : Fin (m + 1) => impl_OrderOnDay.key pages rs day y.val - impl_OrderOnDay.key pages rs day x.val) g 0 (m + 1) w2 := by
  intro q os dk hs x y
  have hgr : w2.grownBy (Go.Proofs.sortWorld (fun i : Fin (m + 1) => Value.int .i64 (i.val : Int)) w2 g 0 q dk os) (some g) := impl_OrderOnDay.sw_grown ⟨q, os, rfl⟩
  have hB2 : Below w.heap.size w (Go.Proofs.sortWorld (fun i : Fin (m + 1) => Value.int .i64 (i.val : Int)) w2 g 0 q dk os) := hB.grown hgr hB.size (fun k hk => by injection hk with hk; omega)
  exact impl_OrderOnDay.clos_calls pages day hpg hd rs hrs ad c bp br bd x.val y.val (by omega) (by omega) _ (Kd.C_below hC hB2) (hgr.cell h1 (by intro e; injection e with e; exact np e)) (hgr.cell h2 (by intro e; injection e with e; exact nr e)) (hgr.cell h3 (by intro e; injection e with e; exact nd e))
theorem impl_OrderOnDay.start_holds {e base g m cap : Nat} {W : World} (h : Kd.R (Kd.int .i64) e W base (fun _ => True) (.slice (some ⟨g, 0, none⟩) (m + 1) cap) ((List.range (m + 1)).map fun (i : Nat) => (i : Int))) :
    Go.Sort.Holds (fun i : Fin (m + 1) => Value.int .i64 (i.val : Int)) W g 0 (Array.ofFn (n := m + 1) id) := by
  intro j hj
  have hj' : j < m + 1 := by simpa using hj
  have h2 := (impl_OrderOnDay.holds h).2.2.2 j (by simp; omega)
  refine ⟨?_, h2.2⟩
  rw [h2.1, getElem!_pos ((List.range (m + 1)).map fun (i : Nat) => (i : Int)).toArray j (by simp; omega), getElem!_pos (Array.ofFn (n := m + 1) (id : Fin (m + 1) → Fin (m + 1))) j hj]
  simp
set_option maxHeartbeats 2000000 in
set_option maxRecDepth 100000 in
theorem impl_OrderOnDay.stable_calls {w w2 : World} (pages day : Int) (hpg : 0 ≤ pages ∧ pages ≤ 2000) (hd : 0 ≤ day ∧ day ≤ 3000) (rs : List S39) (m : Nat) (hm : rs.length = m + 1) (h6 : rs.length ≤ 6) (hrs : rs.all impl_goodR = true) (ad : Addr) (c : Nat) (bp br bd g cap : Nat)
    (hC : Kd.C k39 w (some ad) rs.length rs) (hB : Below w.heap.size w w2) (hg : w.heap.size ≤ g) (np : bp ≠ g) (nr : br ≠ g) (nd : bd ≠ g)
    (h1 : w2.cell? ⟨bp, 0, none⟩ = some (.int .i64 pages)) (h2 : w2.cell? ⟨br, 0, none⟩ = some (.slice (some ad) rs.length c)) (h3 : w2.cell? ⟨bd, 0, none⟩ = some (.int .i64 day))
    (hR : Kd.R (Kd.int .i64) 3 w2 w.heap.size (fun _ => True) (.slice (some ⟨g, 0, none⟩) (m + 1) cap) ((List.range (m + 1)).map fun (i : Nat) => (i : Int))) :
    Calls Try.prog 33 #[.slice (some ⟨g, 0, none⟩) (m + 1) cap, .int .i64 ((m + 1 : Nat) : Int), .func (.func 23) #[] #[.pointer (some ⟨bp, 0, none⟩), .pointer (some ⟨br, 0, none⟩), .pointer (some ⟨bd, 0, none⟩)]] w2 fun e w' => e = .returned (.tuple #[]) ∧
      Kd.R (Kd.int .i64) 3 w' w.heap.size (fun _ => True) (.slice (some ⟨g, 0, none⟩) (m + 1) cap) (impl_OrderOnDay.ord pages rs day) ∧ w2.grownBy w' (some g) := by
  have hH := impl_OrderOnDay.start_holds hR
  have hlt : g < w2.heap.size := Kd.R_lt hR g rfl
  have hsz : (Array.ofFn (n := m + 1) (id : Fin (m + 1) → Fin (m + 1))).size = m + 1 := by simp
  have hins := Go.Proofs.Any.insertionSortCmpFunc_s Try.insL (fun i : Fin (m + 1) => Value.int .i64 (i.val : Int)) (fun x y : Fin (m + 1) => impl_OrderOnDay.key pages rs day y.val - impl_OrderOnDay.key pages rs day x.val) 23 #[.pointer (some ⟨bp, 0, none⟩), .pointer (some ⟨br, 0, none⟩), .pointer (some ⟨bd, 0, none⟩)] g 0 cap 0 (Array.ofFn (n := m + 1) (id : Fin (m + 1) → Fin (m + 1))).size (Array.ofFn (n := m + 1) id) (Array.ofFn (n := m + 1) id) w2 w2
    (enters_of Try.func23 (by kernel_rfl) rfl) (by rw [hsz]; exact impl_OrderOnDay.lays pages day hpg hd rs m hm hrs ad c bp br bd g hC hB hg np nr nd h1 h2 h3) ⟨fun _ => rfl, hH, hlt⟩ rfl (Go.Proofs.SW.start hH) (by omega) (Nat.le_refl _) (by rw [hsz]; omega)
  rw [hsz] at hins
  have hins2 : Calls Try.prog 39 #[.slice (some ⟨g, 0, none⟩) (m + 1) cap, .int .i64 0, .int .i64 ((m + 1 : Nat) : Int), .func (.func 23) #[] #[.pointer (some ⟨bp, 0, none⟩), .pointer (some ⟨br, 0, none⟩), .pointer (some ⟨bd, 0, none⟩)]] w2 fun e w' => e = .returned (.tuple #[]) ∧
      Kd.R (Kd.int .i64) 3 w' w.heap.size (fun _ => True) (.slice (some ⟨g, 0, none⟩) (m + 1) cap) (impl_OrderOnDay.ord pages rs day) ∧ w2.grownBy w' (some g) := by
    refine Calls.mono hins ?_
    rintro e w' ⟨rfl, hS⟩
    have ha := impl_OrderOnDay.answer pages day rs m hm
    rw [hsz] at ha
    refine ⟨rfl, ?_, impl_OrderOnDay.sw_grown hS⟩
    have hl := congrArg List.length ha
    rw [impl_OrderOnDay.ord_len, List.length_map, Array.length_toList, hm] at hl
    rw [← ha]
    exact impl_OrderOnDay.sw_row hR hl hS
  have HI := Aside0.mk hins2
  clear hins hins2 hH
  have hlen : m + 1 ≤ 6 := by omega
  clear h1 h2 h3 hR hC hB
  have hn : ((m + 1 : Nat) : Int) < 20 := by omega
  go_enter Try.func33, Try.ntmps33
  go_wp2
  go_loopg [7, 8] 0 (fun gg s7 s8 wr => s7 = .int .i64 0 ∧ s8 = .int .i64 20 ∧ wr = w2)
  case atStart => exact ⟨rfl, rfl, rfl⟩
  case round =>
    obtain ⟨rfl, rfl, rfl⟩ := hrel
    go_wp2_with (go_at_call 39; refine HI.out.mono ?_; rintro e w' ⟨rfl, ho, hg2⟩; have HO := Aside0.mk ho; have HG := Aside0.mk hg2; clear ho hg2)
    go_loopg [6] 0 (fun gg s6 wr2 => s6 = .int .i64 20 ∧ wr2 = w')
    case atStart => exact ⟨rfl, rfl⟩
    case round =>
      obtain ⟨rfl, rfl⟩ := hrel
      go_wp2
      go_end0
      exact ⟨rfl, HO.out, HG.out⟩
set_option maxHeartbeats 1000000 in
set_option maxRecDepth 100000 in
theorem impl_OrderOnDay.sorts {w w2 : World} (pages day : Int) (hpg : 0 ≤ pages ∧ pages ≤ 2000) (hd : 0 ≤ day ∧ day ≤ 3000) (rs : List S39) (m : Nat) (hm : rs.length = m + 1) (h6 : rs.length ≤ 6) (hrs : rs.all impl_goodR = true) (ad : Addr) (c : Nat) (bp br bd g cap : Nat)
    (hC : Kd.C k39 w (some ad) rs.length rs) (hB : Below w.heap.size w w2) (hg : w.heap.size ≤ g) (np : bp ≠ g) (nr : br ≠ g) (nd : bd ≠ g)
    (h1 : w2.cell? ⟨bp, 0, none⟩ = some (.int .i64 pages)) (h2 : w2.cell? ⟨br, 0, none⟩ = some (.slice (some ad) rs.length c)) (h3 : w2.cell? ⟨bd, 0, none⟩ = some (.int .i64 day))
    (hR : Kd.R (Kd.int .i64) 3 w2 w.heap.size (fun _ => True) (.slice (some ⟨g, 0, none⟩) (m + 1) cap) ((List.range (m + 1)).map fun (i : Nat) => (i : Int))) :
    Calls Try.prog 22 #[.slice (some ⟨g, 0, none⟩) (m + 1) cap, .func (.func 23) #[] #[.pointer (some ⟨bp, 0, none⟩), .pointer (some ⟨br, 0, none⟩), .pointer (some ⟨bd, 0, none⟩)]] w2 fun e w' => e = .returned (.tuple #[]) ∧
      Kd.R (Kd.int .i64) 3 w' w.heap.size (fun _ => True) (.slice (some ⟨g, 0, none⟩) (m + 1) cap) (impl_OrderOnDay.ord pages rs day) ∧ w2.grownBy w' (some g) := by
  have HS := Aside0.mk (impl_OrderOnDay.stable_calls (w := w) (w2 := w2) pages day hpg hd rs m hm h6 hrs ad c bp br bd g cap hC hB hg np nr nd h1 h2 h3 hR)
  have hlen : m + 1 ≤ 6 := by omega
  clear h1 h2 h3 hR hC hB
  go_enter Try.func22, Try.ntmps22
  go_wp2_with (go_at_call 33; refine HS.out.mono ?_; rintro e w' ⟨rfl, ho, hg2⟩; have HO := Aside0.mk ho; have HG := Aside0.mk hg2; clear ho hg2)
  go_end0
  exact ⟨rfl, HO.out, HG.out⟩
theorem impl_OrderOnDay.kept {w w1 : World} {A : Option Addr} {n : Nat} {l : List S39} (hr : Kd.C k39 w A n l) (x y z : Value) {t0 t1 t2 : TypeId} (hb : Below (((w.alloc (.cells #[x] t0)).alloc (.cells #[y] t1)).alloc (.cells #[z] t2)).heap.size (((w.alloc (.cells #[x] t0)).alloc (.cells #[y] t1)).alloc (.cells #[z] t2)) w1) :
    w.heap.size < w1.heap.size ∧ w.heap.size + 1 < w1.heap.size ∧ w.heap.size + 1 + 1 < w1.heap.size ∧ Aside0 (Below w.heap.size w w1) ∧ w1.cell? ⟨w.heap.size, 0, none⟩ = some x ∧ w1.cell? ⟨w.heap.size + 1, 0, none⟩ = some y ∧ w1.cell? ⟨w.heap.size + 1 + 1, 0, none⟩ = some z ∧ Aside0 (Kd.C k39 w1 A n l) := by
  have h0 : Below w.heap.size w w1 := (below_alloc (below_alloc (below_alloc (Below.refl _ _) _) _) _).trans (hb.mono (by simp; omega))
  have hz : w.heap.size + 2 < w1.heap.size := by have := hb.size; simp at this; omega
  have neg : ∀ {i : Nat} {o : Obj} {xs : Array Obj}, i < xs.size → (xs.push o)[i]? = xs[i]? := fun h => by rw [Array.getElem?_push, if_neg (by omega)]
  have e : (((w.alloc (.cells #[x] t0)).alloc (.cells #[y] t1)).alloc (.cells #[z] t2)).heap = ((w.heap.push (.cells #[x] t0)).push (.cells #[y] t1)).push (.cells #[z] t2) := rfl
  have g0 : w1.heap[w.heap.size]? = some (.cells #[x] t0 (0, 0)) := (hb.block _ (by simp <;> omega)).trans (by rw [e, neg (by simp <;> omega), neg (by simp), Array.getElem?_push, if_pos rfl])
  have g1 : w1.heap[w.heap.size + 1]? = some (.cells #[y] t1 (0, 0)) := (hb.block _ (by simp <;> omega)).trans (by rw [e, neg (by simp), Array.getElem?_push, if_pos (by simp)])
  have g2 : w1.heap[w.heap.size + 1 + 1]? = some (.cells #[z] t2 (0, 0)) := (hb.block _ (by simp)).trans (by rw [e, Array.getElem?_push, if_pos (by simp)])
  exact ⟨by omega, by omega, by omega, ⟨h0⟩, by rw [blk_cell g0]; rfl, by rw [blk_cell g1]; rfl, by rw [blk_cell g2]; rfl, ⟨Kd.C_below hr h0⟩⟩
theorem impl_OrderOnDay.kept2 {w w1 w2 : World} {A : Option Addr} {n : Nat} {l : List S39} {x y z : Value} (h : Drawn0 w1 w2) (hz0 : w.heap.size < w1.heap.size) (hz1 : w.heap.size + 1 < w1.heap.size) (hz2 : w.heap.size + 1 + 1 < w1.heap.size) (hB : Aside0 (Below w.heap.size w w1)) (c0 : w1.cell? ⟨w.heap.size, 0, none⟩ = some x) (c1 : w1.cell? ⟨w.heap.size + 1, 0, none⟩ = some y) (c2 : w1.cell? ⟨w.heap.size + 1 + 1, 0, none⟩ = some z) (hC : Aside0 (Kd.C k39 w1 A n l)) :
    w.heap.size < w2.heap.size ∧ w.heap.size + 1 < w2.heap.size ∧ w.heap.size + 1 + 1 < w2.heap.size ∧ Aside0 (Below w.heap.size w w2) ∧ w2.cell? ⟨w.heap.size, 0, none⟩ = some x ∧ w2.cell? ⟨w.heap.size + 1, 0, none⟩ = some y ∧ w2.cell? ⟨w.heap.size + 1 + 1, 0, none⟩ = some z ∧ Aside0 (Kd.C k39 w2 A n l) := by
  obtain ⟨n, rfl⟩ := h.out
  exact ⟨hz0, hz1, hz2, ⟨pw_below_drewN hB.out n⟩, c0, c1, c2, ⟨Kd.C_drewN hC.out n⟩⟩
theorem impl_OrderOnDay.none_yet (W : World) : Kd.R (Kd.int .i64) 3 (W.alloc (.cells #[] 3)) W.heap.size (fun _ => True) (.slice (some ⟨W.heap.size, 0, none⟩) 0 0) ((List.range 0).map fun (i : Nat) => (i : Int)) :=
  ⟨fun _ _ => trivial, [], ⟨by simp, .inr ⟨W.heap.size, 0, #[], rfl, Nat.le_refl _, heap_alloc_new W _, Nat.le_refl _, by unfold maxLen; omega, rfl, by simp⟩⟩, Reps.none _ _⟩
theorem impl_OrderOnDay.snoc {W : World} {b : Nat} {v : Value} {kk : Nat} (h : Kd.R (Kd.int .i64) 3 W b (fun _ => True) v (((List.range kk).map fun (i : Nat) => (i : Int)) ++ [(kk : Int)])) : Kd.R (Kd.int .i64) 3 W b (fun _ => True) v ((List.range (kk + 1)).map fun (i : Nat) => (i : Int)) := by
  rw [List.range_succ, List.map_append]
  exact h
set_option maxHeartbeats 2000000 in
set_option maxRecDepth 100000 in
theorem impl_OrderOnDay.calls (a0 : Int) (A1 : Option Addr) (c1 : Nat) (l1 : List (S39)) (a2 : Int) (r1 : List Int) (r2 : Bool) (w : World) (hr1 : Kd.C k39 w A1 l1.length l1) (hc1 : l1.length ≤ c1) (h : impl_OrderOnDay.f a0 l1 a2 = some (r1, r2)) :
    Calls Try.prog 7 #[.int .i64 a0, .slice A1 l1.length c1, .int .i64 a2] w fun e w' => ∃ v0_ : Value, e = .returned (.tuple #[v0_, .bool r2]) ∧ Kd.R (Kd.int .i64) 3 w' w.heap.size (fun _ => True) v0_ r1 ∧ Below w.heap.size w w' := by
  unfold impl_OrderOnDay.f at h
  obtain ⟨t1, h1, h⟩ := Option.bind_eq_some_iff.1 h
  have HR0 := Aside0.mk hr1
  have HC0 := Aside0.mk hc1
  have H1 := Aside0.mk h1
  clear hr1 hc1 h1
  cases t1 with
  | false =>
    simp only [Bool.false_eq_true, if_false, Option.some.injEq, Prod.mk.injEq] at h
    obtain ⟨rfl, rfl⟩ := h
    go_enter Try.func7, Try.ntmps7
    go_wp2_with (go_at_call 19; (refine (impl_areReadersOf.calls a0 _ c1 l1 false _ ?side1 HC0.out H1.out).mono ?_); (case side1 => exact Kd.C_alloc (Kd.C_alloc (Kd.C_alloc HR0.out _) _) _); rintro e w1 ⟨rfl, hb⟩; obtain ⟨hz0, hz1, hz2, HB1, cb0, cb1, cb2, HC1⟩ := impl_OrderOnDay.kept HR0.out _ _ _ hb; clear hb)
    go_ret2
    exact ⟨_, rfl, Kd.R_nil _ _ _ _ _, HB1.out⟩
  | true =>
    rw [if_pos rfl] at h
    obtain ⟨t2, h2, h⟩ := Option.bind_eq_some_iff.1 h
    have H2 := Aside0.mk h2
    clear h2
    cases t2 with
    | false =>
      simp only [Bool.false_eq_true, if_false, Option.some.injEq, Prod.mk.injEq] at h
      obtain ⟨rfl, rfl⟩ := h
      go_enter Try.func7, Try.ntmps7
      go_wp2_with (first
        | (go_at_call 19; (refine (impl_areReadersOf.calls a0 _ c1 l1 true _ ?side1 HC0.out H1.out).mono ?_); (case side1 => exact Kd.C_alloc (Kd.C_alloc (Kd.C_alloc HR0.out _) _) _); rintro e w1 ⟨rfl, hb⟩; obtain ⟨hz0, hz1, hz2, HB1, cb0, cb1, cb2, HC1⟩ := impl_OrderOnDay.kept HR0.out _ _ _ hb; clear hb)
        | (go_at_call 20; (refine (impl_isGroup.calls _ c1 l1 false w1 HC1.out HC0.out H2.out).mono ?_); rintro e w' ⟨rfl, ⟨nd, rfl⟩⟩))
      go_ret2
      exact ⟨_, rfl, Kd.R_nil _ _ _ _ _, pw_below_drewN HB1.out _⟩
    | true =>
      rw [if_pos rfl] at h
      obtain ⟨t3, h3, h⟩ := Option.bind_eq_some_iff.1 h
      have H3 := Aside0.mk h3
      clear h3
      cases t3 with
      | false =>
        simp only [Bool.false_eq_true, if_false, Option.some.injEq, Prod.mk.injEq] at h
        obtain ⟨rfl, rfl⟩ := h
        go_enter Try.func7, Try.ntmps7
        go_wp2_with (first
          | (go_at_call 19; (refine (impl_areReadersOf.calls a0 _ c1 l1 true _ ?side1 HC0.out H1.out).mono ?_); (case side1 => exact Kd.C_alloc (Kd.C_alloc (Kd.C_alloc HR0.out _) _) _); rintro e w1 ⟨rfl, hb⟩; obtain ⟨hz0, hz1, hz2, HB1, cb0, cb1, cb2, HC1⟩ := impl_OrderOnDay.kept HR0.out _ _ _ hb; clear hb)
          | (go_at_call 20; (refine (impl_isGroup.calls _ c1 l1 true w1 HC1.out HC0.out H2.out).mono ?_); rintro e w' ⟨rfl, ⟨nd, rfl⟩⟩)
          | (go_at_call 21; (refine (impl_isDays.calls a2 false _ H3.out).mono ?_); rintro e w' ⟨rfl, ⟨nd2, rfl⟩⟩))
        go_ret2
        exact ⟨_, rfl, Kd.R_nil _ _ _ _ _, by repeat (first | exact HB1.out | apply pw_below_drewN)⟩
      | true =>
        rw [if_pos rfl] at h
        by_cases c : (0 ≤ a0 ∧ a0 ≤ 2000) ∧ (0 ≤ a2 ∧ a2 ≤ 3000) ∧ (1 ≤ l1.length ∧ l1.length ≤ 6) ∧ l1.all impl_goodR = true
        · rw [if_pos c] at h
          simp only [Option.some.injEq, Prod.mk.injEq] at h
          obtain ⟨rfl, rfl⟩ := h
          obtain ⟨q1, q2, q3, q4⟩ := c
          obtain ⟨ad, rfl, _⟩ := HR0.out.2.2 (by omega)
          go_enter Try.func7, Try.ntmps7
          go_wp2_with (first
            | (go_at_call 19; (refine (impl_areReadersOf.calls a0 _ c1 l1 true _ ?side1 HC0.out H1.out).mono ?_); (case side1 => exact Kd.C_alloc (Kd.C_alloc (Kd.C_alloc HR0.out _) _) _); rintro e w1 ⟨rfl, hb⟩; obtain ⟨hz0, hz1, hz2, HB1, cb0, cb1, cb2, HC1⟩ := impl_OrderOnDay.kept HR0.out _ _ _ hb; clear hb)
            | (go_at_call 20; (refine (impl_isGroup.calls _ c1 l1 true w1 HC1.out HC0.out H2.out).mono ?_); rintro e w2 ⟨rfl, hd⟩; obtain ⟨dz0, dz1, dz2, HB2, db0, db1, db2, HC2⟩ := impl_OrderOnDay.kept2 hd hz0 hz1 hz2 HB1 cb0 cb1 cb2 HC1; clear hd cb0 cb1 cb2)
            | (go_at_call 21; (refine (impl_isDays.calls a2 true _ H3.out).mono ?_); rintro e w3 ⟨rfl, hd⟩; obtain ⟨ez0, ez1, ez2, HB3, eb0, eb1, eb2, HC3⟩ := impl_OrderOnDay.kept2 hd dz0 dz1 dz2 HB2 db0 db1 db2 HC2; clear hd db0 db1 db2))
          go_loopg [8, 27] l1.length (fun gg s8 s27 wr => ∃ kk : Nat, kk ≤ l1.length ∧ l1.length - kk ≤ gg ∧ s27 = .int .i64 kk ∧ Aside0 (Kd.R (Kd.int .i64) 3 wr w3.heap.size (fun _ => True) s8 ((List.range kk).map fun (i : Nat) => (i : Int))) ∧ Aside0 (Below w3.heap.size w3 wr))
          case atStart => exact ⟨0, by omega, by omega, by go_num, ⟨impl_OrderOnDay.none_yet _⟩, ⟨below_alloc (Below.refl _ _) _⟩⟩
          case round =>
            obtain ⟨kk, hkk, hgg, rfl, HO, HW⟩ := hrel
            rename_i s8 _ _ _
            by_cases hlt : kk < l1.length
            · have hltz : (kk : Int) < (l1.length : Int) := by omega
              have hws : w3.heap.size ≤ wr.heap.size := HW.out.size
              go_wp2_with (at_builtin; refine Kd.R_append (Kd.int .i64) (w0 := w3) (W := wr) w3.heap.size rfl (.tmp 30) (.tmp 32) 24 3 (.int .i64 0) 8 rfl Try.underlying24 info3 rfl (by decide) (by decide) _ _ (kk : Int) [.int .i64 (kk : Int)] (fun _ => True) (fun _ => False) rfl rfl rfl (fun _ h => h.elim) (fun _ _ => trivial) HO.out HW.out hws (by simp; omega) ?_; intro v1 w4 ho hb hg hat; have HO2 := Aside0.mk (impl_OrderOnDay.snoc ho); have HW2 := Aside0.mk hb; clear ho hb hg hat)
              go_roundg (l1.length - (kk + 1))
              case measure => omega
              case rel => exact ⟨kk + 1, by omega, by omega, by go_num, HO2, HW2⟩
            · have hltz : ¬ (kk : Int) < (l1.length : Int) := by omega
              obtain rfl : kk = l1.length := by omega
              have hl : ((List.range l1.length).map fun (i : Nat) => (i : Int)).length = l1.length := by simp
              obtain ⟨g, cap, e8, hg1, hg2, _⟩ := Kd.R_form HO.out (by rw [hl]; omega)
              rw [hl] at e8
              subst e8
              obtain ⟨m, hm⟩ : ∃ m, l1.length = m + 1 := ⟨l1.length - 1, by omega⟩
              have hww : w.heap.size ≤ w3.heap.size := by omega
              have HBW := Aside0.mk (HB3.out.trans (HW.out.mono hww))
              have hS := impl_OrderOnDay.sorts (w := w) (w2 := wr) a0 a2 q1 q2 l1 m hm q3.2 q4 ad c1 w.heap.size (w.heap.size + 1) (w.heap.size + 1 + 1) g cap HR0.out HBW.out (by omega) (by omega) (by omega) (by omega) ((HW.out.cell (p := ⟨w.heap.size, 0, none⟩) ez0).trans eb0) ((HW.out.cell (p := ⟨w.heap.size + 1, 0, none⟩) ez1).trans eb1) ((HW.out.cell (p := ⟨w.heap.size + 1 + 1, 0, none⟩) ez2).trans eb2) (by rw [← hm]; exact Kd.R_lower HO.out hww)
              rw [← hm] at hS
              have HS := Aside0.mk hS
              clear hS hl hm
              go_wp2_with (go_at_call 22; refine HS.out.mono ?_; rintro e w5 ⟨rfl, ho5, hg5⟩; have HO5 := Aside0.mk ho5; have HG5 := Aside0.mk hg5; clear ho5 hg5)
              go_ret2
              exact ⟨_, rfl, HO5.out, HBW.out.grown HG5.out HBW.out.size (fun k hk => by injection hk with hk; omega)⟩
        · rw [if_neg c] at h
          exact absurd h (by simp)

/-! ### laws_eqIntS: function 8 -/
def laws_eqIntS.l0 : Nat → List Int → List Int → Int → Option (Bool)
  | 0, _, _, _ => none
  | k + 1, x0, x1, x5 => if x5 < (x0.length : Int) then (if 0 ≤ x5 then (if x5 < (x1.length : Int) then (if (rd x0 x5) = (rd x1 x5) then (laws_eqIntS.l0 k x0 x1 (wrap64 (x5 + 1))) else (some false)) else (none)) else (none)) else (some true)
def laws_eqIntS.f (k : Nat) (l0 : List Int) (l1 : List Int) : Option (Bool) := if (l0.length : Int) = (l1.length : Int) then (laws_eqIntS.l0 k l0 l1 0) else (some false)
theorem laws_eqIntS.mono_l : ∀ k, (∀ y0 y1 y2, LeO (laws_eqIntS.l0 k y0 y1 y2) (laws_eqIntS.l0 (k + 1) y0 y1 y2))
  | 0 => fun _ _ _ r h => by simp [laws_eqIntS.l0] at h
  | k + 1 => by
    have ih0 := laws_eqIntS.mono_l k
    · intro y0 y1 y2
      unfold laws_eqIntS.l0
      repeat' first
      | (with_reducible exact ih0 _ _ _)
      | (with_reducible exact LeO.refl _)
      | (with_reducible exact LeO.none _)
      | (with_reducible refine LeO.ite ?_ ?_)
      | (with_reducible refine LeO.bind ?_ (fun _ => ?_))
      | exact ih0 _ _ _
      | exact LeO.none _
      | refine LeO.ite ?_ ?_
      | refine LeO.bind ?_ (fun _ => ?_)
theorem laws_eqIntS.mono : ∀ a0 a1 k, LeO (laws_eqIntS.f k a0 a1) (laws_eqIntS.f (k + 1) a0 a1) := by
  intro a0 a1 k
  have ih0 := laws_eqIntS.mono_l k
  unfold laws_eqIntS.f
  repeat' first
      | (with_reducible exact ih0 _ _ _)
      | (with_reducible exact LeO.refl _)
      | (with_reducible exact LeO.none _)
      | (with_reducible refine LeO.ite ?_ ?_)
      | (with_reducible refine LeO.bind ?_ (fun _ => ?_))
      | exact ih0 _ _ _
      | exact LeO.none _
      | refine LeO.ite ?_ ?_
      | refine LeO.bind ?_ (fun _ => ?_)
set_option maxHeartbeats 8000000 in
set_option maxRecDepth 100000 in
theorem laws_eqIntS.calls (k : Nat) (A0 : Option Addr) (c0 : Nat) (l0 : List Int) (A1 : Option Addr) (c1 : Nat) (l1 : List Int) (r : Bool) (w : World) (hr0 : Kd.C (Kd.int .i64) w A0 l0.length l0) (hc0 : l0.length ≤ c0) (hr1 : Kd.C (Kd.int .i64) w A1 l1.length l1) (hc1 : l1.length ≤ c1) (h : laws_eqIntS.f k l0 l1 = some r) :
    Calls Try.prog 8 #[.slice A0 l0.length c0, .slice A1 l1.length c1] w fun e w' => e = .returned (.bool r) ∧ Drawn0 w w' := by
  have HR0 := Aside0.mk hr0
  have HC0 := Aside0.mk hc0
  clear hr0 hc0
  have HR1 := Aside0.mk hr1
  have HC1 := Aside0.mk hc1
  clear hr1 hc1
  have H : (if (l0.length : Int) = (l1.length : Int) then (laws_eqIntS.l0 k l0 l1 0) else (some false)) = some r := h
  clear h
  by_cases c3 : (l0.length : Int) = (l1.length : Int)
  · rw [if_pos c3] at H
    have c3b0 : ((l0.length : Int) == (l1.length : Int)) = true := beq_iff_eq.mpr c3
    have c3b1 : ((l0.length : Int) != (l1.length : Int)) = false := bne_eq_false_iff_eq.mpr c3
    have c3b2 : (l0.length == l1.length) = true := by first | simpa using c3 | (simp at c3 ⊢; omega)
    clear c3
    have H' := Aside0.mk H
    clear H
    go_enter Try.func8, Try.ntmps8
    go_wp2
    repeat (go_quiet (fail); try go_wp2)
    go_loopg [5] k (fun kq v5 w' => ∃ (x5_1 : Int), v5 = .int .i64 x5_1 ∧ Aside0 (laws_eqIntS.l0 kq l0 l1 x5_1 = some r) ∧ Aside0 (kq ≤ k) ∧ Drawn0 w w')
    case atStart => exact ⟨(0), (by first | rfl | (simp; done) | (simp [*]; done)), H', ⟨Nat.le_refl _⟩, by repeat (first | exact Drawn0.refl _ | apply Drawn0.step)⟩
    case round =>
      clear H'
      try clear c1
      try clear p2
      try clear c3
      try clear c3b0
      try clear c3b1
      try clear c3b2
      obtain ⟨x5_1, rfl, HA, HK1, ⟨m1, rfl⟩⟩ := hrel
      cases gk with
      | zero => exact absurd HA.out (by simp [laws_eqIntS.l0])
      | succ k1 =>
        have H := HA.out
        clear HA
        simp only [laws_eqIntS.l0] at H
        by_cases c4 : x5_1 < (l0.length : Int)
        · rw [if_pos c4] at H
          have c4b0 : decide (x5_1 < (l0.length : Int)) = true := decide_eq_true c4
          clear c4
          by_cases c5 : 0 ≤ x5_1
          · rw [if_pos c5] at H
            have c5b0 : decide (0 ≤ x5_1) = true := decide_eq_true c5
            clear c5
            by_cases c6 : x5_1 < (l1.length : Int)
            · rw [if_pos c6] at H
              have c6b0 : decide (x5_1 < (l1.length : Int)) = true := decide_eq_true c6
              clear c6
              by_cases c7 : (rd l0 x5_1) = (rd l1 x5_1)
              · rw [if_pos c7] at H
                have c7b0 : ((rd l0 x5_1) == (rd l1 x5_1)) = true := beq_iff_eq.mpr c7
                have c7b1 : ((rd l0 x5_1) != (rd l1 x5_1)) = false := bne_eq_false_iff_eq.mpr c7
                clear c7
                have H' := Aside0.mk H
                clear H
                have p182 : 0 ≤ (x5_1 : Int) := of_decide_eq_true (by first | (with_reducible assumption) | assumption)
                have q182 : x5_1 < (l0.length : Int) := of_decide_eq_true (by first | (with_reducible assumption) | assumption)
                obtain ⟨ad182, e182, hx182_0⟩ := Kd.at_int HR0.out x5_1 p182 q182
                cases e182
                replace p182 := eq_true p182
                replace q182 := eq_true q182
                have p183 : 0 ≤ (x5_1 : Int) := of_decide_eq_true (by first | (with_reducible assumption) | assumption)
                have q183 : x5_1 < (l1.length : Int) := of_decide_eq_true (by first | (with_reducible assumption) | assumption)
                obtain ⟨ad183, e183, hx183_0⟩ := Kd.at_int HR1.out x5_1 p183 q183
                cases e183
                replace p183 := eq_true p183
                replace q183 := eq_true q183
                go_wp2
                repeat (go_quiet (fail); try go_wp2)
                go_roundg k1
                case measure => have := HK1.out; omega
                case rel => exact ⟨(wrap64 (x5_1 + 1)), (by first | rfl | (simp; done) | (simp [*]; done)), H', ⟨by have := HK1.out; omega⟩, by repeat (first | exact Drawn0.refl _ | apply Drawn0.step)⟩
              · rw [if_neg c7] at H
                have c7b0 : ((rd l0 x5_1) == (rd l1 x5_1)) = false := beq_eq_false_iff_ne.mpr c7
                have c7b1 : ((rd l0 x5_1) != (rd l1 x5_1)) = true := bne_iff_ne.mpr c7
                obtain rfl := Option.some.inj H
                have p182 : 0 ≤ (x5_1 : Int) := of_decide_eq_true (by first | (with_reducible assumption) | assumption)
                have q182 : x5_1 < (l0.length : Int) := of_decide_eq_true (by first | (with_reducible assumption) | assumption)
                obtain ⟨ad182, e182, hx182_0⟩ := Kd.at_int HR0.out x5_1 p182 q182
                cases e182
                replace p182 := eq_true p182
                replace q182 := eq_true q182
                have p183 : 0 ≤ (x5_1 : Int) := of_decide_eq_true (by first | (with_reducible assumption) | assumption)
                have q183 : x5_1 < (l1.length : Int) := of_decide_eq_true (by first | (with_reducible assumption) | assumption)
                obtain ⟨ad183, e183, hx183_0⟩ := Kd.at_int HR1.out x5_1 p183 q183
                cases e183
                replace p183 := eq_true p183
                replace q183 := eq_true q183
                go_wp2
                repeat (go_quiet (fail); try go_wp2)
                go_ret
                exact ⟨by first | rfl | (simp; done) | (simp [*]; done), by repeat (first | exact Drawn0.refl _ | apply Drawn0.step)⟩
            · rw [if_neg c6] at H
              exact absurd H (by simp)
          · rw [if_neg c5] at H
            exact absurd H (by simp)
        · rw [if_neg c4] at H
          have c4b0 : decide (x5_1 < (l0.length : Int)) = false := decide_eq_false c4
          clear c4
          obtain rfl := Option.some.inj H
          go_wp2
          repeat (go_quiet (fail); try go_wp2)
          go_ret
          exact ⟨by first | rfl | (simp; done) | (simp [*]; done), by repeat (first | exact Drawn0.refl _ | apply Drawn0.step)⟩
  · rw [if_neg c3] at H
    have c3b0 : ((l0.length : Int) == (l1.length : Int)) = false := beq_eq_false_iff_ne.mpr c3
    have c3b1 : ((l0.length : Int) != (l1.length : Int)) = true := bne_iff_ne.mpr c3
    have c3b2 : (l0.length == l1.length) = false := by first | simpa using c3 | (simp at c3 ⊢; omega)
    obtain rfl := Option.some.inj H
    go_enter Try.func8, Try.ntmps8
    go_wp2
    repeat (go_quiet (fail); try go_wp2)
    go_ret
    exact ⟨by first | rfl | (simp; done) | (simp [*]; done), by repeat (first | exact Drawn0.refl _ | apply Drawn0.step)⟩

/-! ### laws_eqReader: function 25 -/
def laws_eqReader.f (a0_0 : Int) (a0_1 : Int) (a0_2 : Int) (a1_0 : Int) (a1_1 : Int) (a1_2 : Int) : Option (Bool) := if a0_0 = a1_0 then (if a0_1 = a1_1 then (if a0_2 = a1_2 then (some true) else (some false)) else (some false)) else (some false)
set_option maxHeartbeats 8000000 in
set_option maxRecDepth 100000 in
theorem laws_eqReader.calls (a0_0 : Int) (a0_1 : Int) (a0_2 : Int) (a1_0 : Int) (a1_1 : Int) (a1_2 : Int) (r : Bool) (w : World) (h : laws_eqReader.f a0_0 a0_1 a0_2 a1_0 a1_1 a1_2 = some r) :
    Calls Try.prog 25 #[.agg #[.int .i64 a0_0, .int .i64 a0_1, .int .i64 a0_2], .agg #[.int .i64 a1_0, .int .i64 a1_1, .int .i64 a1_2]] w fun e w' => e = .returned (.bool r) ∧ Below w.heap.size w w' := by
  have hu39 := Try.underlying39
  have HB := Aside0.mk (Below.refl w.heap.size w)
  have H : (if a0_0 = a1_0 then (if a0_1 = a1_1 then (if a0_2 = a1_2 then (some true) else (some false)) else (some false)) else (some false)) = some r := h
  clear h
  by_cases c3 : a0_0 = a1_0
  · rw [if_pos c3] at H
    have c3b0 : (a0_0 == a1_0) = true := beq_iff_eq.mpr c3
    have c3b1 : (a0_0 != a1_0) = false := bne_eq_false_iff_eq.mpr c3
    clear c3
    by_cases c4 : a0_1 = a1_1
    · rw [if_pos c4] at H
      have c4b0 : (a0_1 == a1_1) = true := beq_iff_eq.mpr c4
      have c4b1 : (a0_1 != a1_1) = false := bne_eq_false_iff_eq.mpr c4
      clear c4
      by_cases c5 : a0_2 = a1_2
      · rw [if_pos c5] at H
        have c5b0 : (a0_2 == a1_2) = true := beq_iff_eq.mpr c5
        have c5b1 : (a0_2 != a1_2) = false := bne_eq_false_iff_eq.mpr c5
        clear c5
        obtain rfl := Option.some.inj H
        go_enter Try.func25, Try.ntmps25
        go_wp2_with (first | ((with_reducible refine gate_dst (N := 2) rfl ?_); refine box_event ?hg (N := 2) ?hd (cs := #[.int .i64 a0_0, .int .i64 a0_1, .int .i64 a0_2]) (t := 39) ?hr ?_; (case hd => rfl); (case hg => rfl); (case hr => first | (go_simp; done) | (go_simp; rfl)); intro gb184 hg w6 hbox hb; have n0_ := Aside0.mk (below_step (by repeat (first | (with_reducible first | exact HB.out | apply below_alloc | apply pw_below_drewN | apply below_drew1) | exact HB.out)) hb); have n1_ := Aside0.mk (hbox); have n2_ := Aside0.mk ((by rw [hg]; exact (below_size (by repeat (first | (with_reducible first | exact HB.out | apply below_alloc | apply pw_below_drewN | apply below_drew1) | exact HB.out))) : w.heap.size ≤ gb184)); have n3_ := Aside0.mk ((by rw [hg]; exact (below_size (by repeat (first | (with_reducible first | exact HB.out | apply below_alloc | apply pw_below_drewN | apply below_drew1) | exact HB.out))) : w.heap.size ≤ gb184)); clear HB; have HB := n0_; have BK184 := n1_; have GW184 := n2_; have GE184 := n3_; clear n0_ n1_ n2_ n3_; clear hb hbox hg) | ((with_reducible refine gate_dst (N := 3) rfl ?_); refine box_event ?hg (N := 3) ?hd (cs := #[.int .i64 a1_0, .int .i64 a1_1, .int .i64 a1_2]) (t := 39) ?hr ?_; (case hd => rfl); (case hg => rfl); (case hr => first | (go_simp; done) | (go_simp; rfl)); intro gb185 hg w7 hbox hb; have n0_ := Aside0.mk (blk_below (g := gb184) (o := .cells #[.int .i64 a0_0, .int .i64 a0_1, .int .i64 a0_2] 39 (0, 0)) (by (with_reducible repeat (first | refine blk_drewN ?_ _ | refine blk_drew ?_ | refine blk_alloc ?_ _)); exact BK184.out) hb); have n1_ := Aside0.mk (below_step (by repeat (first | (with_reducible first | exact HB.out | apply below_alloc | apply pw_below_drewN | apply below_drew1 | refine below_set ?_ GE184.out) | exact HB.out)) hb); have n2_ := Aside0.mk (hbox); have n3_ := Aside0.mk ((by rw [hg]; exact (below_size (by repeat (first | (with_reducible first | exact HB.out | apply below_alloc | apply pw_below_drewN | apply below_drew1 | refine below_set ?_ GE184.out) | exact HB.out))) : w.heap.size ≤ gb185)); have n4_ := Aside0.mk ((by rw [hg]; exact (below_size (by repeat (first | (with_reducible first | exact HB.out | apply below_alloc | apply pw_below_drewN | apply below_drew1 | refine below_set ?_ GE184.out) | exact HB.out))) : w.heap.size ≤ gb185)); have n5_ := Aside0.mk ((by rw [hg]; exact Nat.ne_of_lt (blk_lt (g := gb184) (o := .cells #[.int .i64 a0_0, .int .i64 a0_1, .int .i64 a0_2] 39 (0, 0)) (by (with_reducible repeat (first | refine blk_drewN ?_ _ | refine blk_drew ?_ | refine blk_alloc ?_ _)); exact BK184.out)) : gb184 ≠ gb185)); have n6_ := Aside0.mk ((by rw [hg]; exact Nat.ne_of_gt (blk_lt (g := gb184) (o := .cells #[.int .i64 a0_0, .int .i64 a0_1, .int .i64 a0_2] 39 (0, 0)) (by (with_reducible repeat (first | refine blk_drewN ?_ _ | refine blk_drew ?_ | refine blk_alloc ?_ _)); exact BK184.out)) : gb185 ≠ gb184)); clear BK184; clear HB; have BK184 := n0_; have HB := n1_; have BK185 := n2_; have GW185 := n3_; have GE185 := n4_; have NB184_185 := n5_; have NB185_184 := n6_; clear n0_ n1_ n2_ n3_ n4_ n5_ n6_; clear hb hbox hg; have hnb8 := NB184_185.out; have hnc8 := NB185_184.out; have hcz9_0 : w7.cell? ⟨gb184, 0, none⟩ = some (.int .i64 a0_0) := (blk_cell BK184.out 0).trans rfl; have hcz9_1 : w7.cell? ⟨gb184, 1, none⟩ = some (.int .i64 a0_1) := (blk_cell BK184.out 1).trans rfl; have hcz9_2 : w7.cell? ⟨gb184, 2, none⟩ = some (.int .i64 a0_2) := (blk_cell BK184.out 2).trans rfl; have hfz9_0 := blk_frozen BK184.out 0; have hfz9_1 := blk_frozen BK184.out 1; have hfz9_2 := blk_frozen BK184.out 2; have hcz10_0 : w7.cell? ⟨gb185, 0, none⟩ = some (.int .i64 a1_0) := (blk_cell BK185.out 0).trans rfl; have hcz10_1 : w7.cell? ⟨gb185, 1, none⟩ = some (.int .i64 a1_1) := (blk_cell BK185.out 1).trans rfl; have hcz10_2 : w7.cell? ⟨gb185, 2, none⟩ = some (.int .i64 a1_2) := (blk_cell BK185.out 2).trans rfl; have hfz10_0 := blk_frozen BK185.out 0; have hfz10_1 := blk_frozen BK185.out 1; have hfz10_2 := blk_frozen BK185.out 2))
        go_ret
        exact ⟨by first | rfl | (simp [errW_none, errW_some] <;> rfl) | (simp [*, errW_none, errW_some] <;> rfl), by repeat (first | (with_reducible first | exact HB.out | apply below_alloc | apply pw_below_drewN | apply below_drew1 | refine below_set ?_ GE184.out | refine below_set ?_ GE185.out) | exact HB.out)⟩
      · rw [if_neg c5] at H
        have c5b0 : (a0_2 == a1_2) = false := beq_eq_false_iff_ne.mpr c5
        have c5b1 : (a0_2 != a1_2) = true := bne_iff_ne.mpr c5
        obtain rfl := Option.some.inj H
        go_enter Try.func25, Try.ntmps25
        go_wp2_with (first | ((with_reducible refine gate_dst (N := 2) rfl ?_); refine box_event ?hg (N := 2) ?hd (cs := #[.int .i64 a0_0, .int .i64 a0_1, .int .i64 a0_2]) (t := 39) ?hr ?_; (case hd => rfl); (case hg => rfl); (case hr => first | (go_simp; done) | (go_simp; rfl)); intro gb184 hg w11 hbox hb; have n0_ := Aside0.mk (below_step (by repeat (first | (with_reducible first | exact HB.out | apply below_alloc | apply pw_below_drewN | apply below_drew1) | exact HB.out)) hb); have n1_ := Aside0.mk (hbox); have n2_ := Aside0.mk ((by rw [hg]; exact (below_size (by repeat (first | (with_reducible first | exact HB.out | apply below_alloc | apply pw_below_drewN | apply below_drew1) | exact HB.out))) : w.heap.size ≤ gb184)); have n3_ := Aside0.mk ((by rw [hg]; exact (below_size (by repeat (first | (with_reducible first | exact HB.out | apply below_alloc | apply pw_below_drewN | apply below_drew1) | exact HB.out))) : w.heap.size ≤ gb184)); clear HB; have HB := n0_; have BK184 := n1_; have GW184 := n2_; have GE184 := n3_; clear n0_ n1_ n2_ n3_; clear hb hbox hg) | ((with_reducible refine gate_dst (N := 3) rfl ?_); refine box_event ?hg (N := 3) ?hd (cs := #[.int .i64 a1_0, .int .i64 a1_1, .int .i64 a1_2]) (t := 39) ?hr ?_; (case hd => rfl); (case hg => rfl); (case hr => first | (go_simp; done) | (go_simp; rfl)); intro gb185 hg w12 hbox hb; have n0_ := Aside0.mk (blk_below (g := gb184) (o := .cells #[.int .i64 a0_0, .int .i64 a0_1, .int .i64 a0_2] 39 (0, 0)) (by (with_reducible repeat (first | refine blk_drewN ?_ _ | refine blk_drew ?_ | refine blk_alloc ?_ _)); exact BK184.out) hb); have n1_ := Aside0.mk (below_step (by repeat (first | (with_reducible first | exact HB.out | apply below_alloc | apply pw_below_drewN | apply below_drew1 | refine below_set ?_ GE184.out) | exact HB.out)) hb); have n2_ := Aside0.mk (hbox); have n3_ := Aside0.mk ((by rw [hg]; exact (below_size (by repeat (first | (with_reducible first | exact HB.out | apply below_alloc | apply pw_below_drewN | apply below_drew1 | refine below_set ?_ GE184.out) | exact HB.out))) : w.heap.size ≤ gb185)); have n4_ := Aside0.mk ((by rw [hg]; exact (below_size (by repeat (first | (with_reducible first | exact HB.out | apply below_alloc | apply pw_below_drewN | apply below_drew1 | refine below_set ?_ GE184.out) | exact HB.out))) : w.heap.size ≤ gb185)); have n5_ := Aside0.mk ((by rw [hg]; exact Nat.ne_of_lt (blk_lt (g := gb184) (o := .cells #[.int .i64 a0_0, .int .i64 a0_1, .int .i64 a0_2] 39 (0, 0)) (by (with_reducible repeat (first | refine blk_drewN ?_ _ | refine blk_drew ?_ | refine blk_alloc ?_ _)); exact BK184.out)) : gb184 ≠ gb185)); have n6_ := Aside0.mk ((by rw [hg]; exact Nat.ne_of_gt (blk_lt (g := gb184) (o := .cells #[.int .i64 a0_0, .int .i64 a0_1, .int .i64 a0_2] 39 (0, 0)) (by (with_reducible repeat (first | refine blk_drewN ?_ _ | refine blk_drew ?_ | refine blk_alloc ?_ _)); exact BK184.out)) : gb185 ≠ gb184)); clear BK184; clear HB; have BK184 := n0_; have HB := n1_; have BK185 := n2_; have GW185 := n3_; have GE185 := n4_; have NB184_185 := n5_; have NB185_184 := n6_; clear n0_ n1_ n2_ n3_ n4_ n5_ n6_; clear hb hbox hg; have hnb13 := NB184_185.out; have hnc13 := NB185_184.out; have hcz14_0 : w12.cell? ⟨gb184, 0, none⟩ = some (.int .i64 a0_0) := (blk_cell BK184.out 0).trans rfl; have hcz14_1 : w12.cell? ⟨gb184, 1, none⟩ = some (.int .i64 a0_1) := (blk_cell BK184.out 1).trans rfl; have hcz14_2 : w12.cell? ⟨gb184, 2, none⟩ = some (.int .i64 a0_2) := (blk_cell BK184.out 2).trans rfl; have hfz14_0 := blk_frozen BK184.out 0; have hfz14_1 := blk_frozen BK184.out 1; have hfz14_2 := blk_frozen BK184.out 2; have hcz15_0 : w12.cell? ⟨gb185, 0, none⟩ = some (.int .i64 a1_0) := (blk_cell BK185.out 0).trans rfl; have hcz15_1 : w12.cell? ⟨gb185, 1, none⟩ = some (.int .i64 a1_1) := (blk_cell BK185.out 1).trans rfl; have hcz15_2 : w12.cell? ⟨gb185, 2, none⟩ = some (.int .i64 a1_2) := (blk_cell BK185.out 2).trans rfl; have hfz15_0 := blk_frozen BK185.out 0; have hfz15_1 := blk_frozen BK185.out 1; have hfz15_2 := blk_frozen BK185.out 2))
        go_ret
        exact ⟨by first | rfl | (simp [errW_none, errW_some] <;> rfl) | (simp [*, errW_none, errW_some] <;> rfl), by repeat (first | (with_reducible first | exact HB.out | apply below_alloc | apply pw_below_drewN | apply below_drew1 | refine below_set ?_ GE184.out | refine below_set ?_ GE185.out) | exact HB.out)⟩
    · rw [if_neg c4] at H
      have c4b0 : (a0_1 == a1_1) = false := beq_eq_false_iff_ne.mpr c4
      have c4b1 : (a0_1 != a1_1) = true := bne_iff_ne.mpr c4
      obtain rfl := Option.some.inj H
      go_enter Try.func25, Try.ntmps25
      go_wp2_with (first | ((with_reducible refine gate_dst (N := 2) rfl ?_); refine box_event ?hg (N := 2) ?hd (cs := #[.int .i64 a0_0, .int .i64 a0_1, .int .i64 a0_2]) (t := 39) ?hr ?_; (case hd => rfl); (case hg => rfl); (case hr => first | (go_simp; done) | (go_simp; rfl)); intro gb184 hg w16 hbox hb; have n0_ := Aside0.mk (below_step (by repeat (first | (with_reducible first | exact HB.out | apply below_alloc | apply pw_below_drewN | apply below_drew1) | exact HB.out)) hb); have n1_ := Aside0.mk (hbox); have n2_ := Aside0.mk ((by rw [hg]; exact (below_size (by repeat (first | (with_reducible first | exact HB.out | apply below_alloc | apply pw_below_drewN | apply below_drew1) | exact HB.out))) : w.heap.size ≤ gb184)); have n3_ := Aside0.mk ((by rw [hg]; exact (below_size (by repeat (first | (with_reducible first | exact HB.out | apply below_alloc | apply pw_below_drewN | apply below_drew1) | exact HB.out))) : w.heap.size ≤ gb184)); clear HB; have HB := n0_; have BK184 := n1_; have GW184 := n2_; have GE184 := n3_; clear n0_ n1_ n2_ n3_; clear hb hbox hg) | ((with_reducible refine gate_dst (N := 3) rfl ?_); refine box_event ?hg (N := 3) ?hd (cs := #[.int .i64 a1_0, .int .i64 a1_1, .int .i64 a1_2]) (t := 39) ?hr ?_; (case hd => rfl); (case hg => rfl); (case hr => first | (go_simp; done) | (go_simp; rfl)); intro gb185 hg w17 hbox hb; have n0_ := Aside0.mk (blk_below (g := gb184) (o := .cells #[.int .i64 a0_0, .int .i64 a0_1, .int .i64 a0_2] 39 (0, 0)) (by (with_reducible repeat (first | refine blk_drewN ?_ _ | refine blk_drew ?_ | refine blk_alloc ?_ _)); exact BK184.out) hb); have n1_ := Aside0.mk (below_step (by repeat (first | (with_reducible first | exact HB.out | apply below_alloc | apply pw_below_drewN | apply below_drew1 | refine below_set ?_ GE184.out) | exact HB.out)) hb); have n2_ := Aside0.mk (hbox); have n3_ := Aside0.mk ((by rw [hg]; exact (below_size (by repeat (first | (with_reducible first | exact HB.out | apply below_alloc | apply pw_below_drewN | apply below_drew1 | refine below_set ?_ GE184.out) | exact HB.out))) : w.heap.size ≤ gb185)); have n4_ := Aside0.mk ((by rw [hg]; exact (below_size (by repeat (first | (with_reducible first | exact HB.out | apply below_alloc | apply pw_below_drewN | apply below_drew1 | refine below_set ?_ GE184.out) | exact HB.out))) : w.heap.size ≤ gb185)); have n5_ := Aside0.mk ((by rw [hg]; exact Nat.ne_of_lt (blk_lt (g := gb184) (o := .cells #[.int .i64 a0_0, .int .i64 a0_1, .int .i64 a0_2] 39 (0, 0)) (by (with_reducible repeat (first | refine blk_drewN ?_ _ | refine blk_drew ?_ | refine blk_alloc ?_ _)); exact BK184.out)) : gb184 ≠ gb185)); have n6_ := Aside0.mk ((by rw [hg]; exact Nat.ne_of_gt (blk_lt (g := gb184) (o := .cells #[.int .i64 a0_0, .int .i64 a0_1, .int .i64 a0_2] 39 (0, 0)) (by (with_reducible repeat (first | refine blk_drewN ?_ _ | refine blk_drew ?_ | refine blk_alloc ?_ _)); exact BK184.out)) : gb185 ≠ gb184)); clear BK184; clear HB; have BK184 := n0_; have HB := n1_; have BK185 := n2_; have GW185 := n3_; have GE185 := n4_; have NB184_185 := n5_; have NB185_184 := n6_; clear n0_ n1_ n2_ n3_ n4_ n5_ n6_; clear hb hbox hg; have hnb18 := NB184_185.out; have hnc18 := NB185_184.out; have hcz19_0 : w17.cell? ⟨gb184, 0, none⟩ = some (.int .i64 a0_0) := (blk_cell BK184.out 0).trans rfl; have hcz19_1 : w17.cell? ⟨gb184, 1, none⟩ = some (.int .i64 a0_1) := (blk_cell BK184.out 1).trans rfl; have hcz19_2 : w17.cell? ⟨gb184, 2, none⟩ = some (.int .i64 a0_2) := (blk_cell BK184.out 2).trans rfl; have hfz19_0 := blk_frozen BK184.out 0; have hfz19_1 := blk_frozen BK184.out 1; have hfz19_2 := blk_frozen BK184.out 2; have hcz20_0 : w17.cell? ⟨gb185, 0, none⟩ = some (.int .i64 a1_0) := (blk_cell BK185.out 0).trans rfl; have hcz20_1 : w17.cell? ⟨gb185, 1, none⟩ = some (.int .i64 a1_1) := (blk_cell BK185.out 1).trans rfl; have hcz20_2 : w17.cell? ⟨gb185, 2, none⟩ = some (.int .i64 a1_2) := (blk_cell BK185.out 2).trans rfl; have hfz20_0 := blk_frozen BK185.out 0; have hfz20_1 := blk_frozen BK185.out 1; have hfz20_2 := blk_frozen BK185.out 2))
      go_ret
      exact ⟨by first | rfl | (simp [errW_none, errW_some] <;> rfl) | (simp [*, errW_none, errW_some] <;> rfl), by repeat (first | (with_reducible first | exact HB.out | apply below_alloc | apply pw_below_drewN | apply below_drew1 | refine below_set ?_ GE184.out | refine below_set ?_ GE185.out) | exact HB.out)⟩
  · rw [if_neg c3] at H
    have c3b0 : (a0_0 == a1_0) = false := beq_eq_false_iff_ne.mpr c3
    have c3b1 : (a0_0 != a1_0) = true := bne_iff_ne.mpr c3
    obtain rfl := Option.some.inj H
    go_enter Try.func25, Try.ntmps25
    go_wp2_with (first | ((with_reducible refine gate_dst (N := 2) rfl ?_); refine box_event ?hg (N := 2) ?hd (cs := #[.int .i64 a0_0, .int .i64 a0_1, .int .i64 a0_2]) (t := 39) ?hr ?_; (case hd => rfl); (case hg => rfl); (case hr => first | (go_simp; done) | (go_simp; rfl)); intro gb184 hg w21 hbox hb; have n0_ := Aside0.mk (below_step (by repeat (first | (with_reducible first | exact HB.out | apply below_alloc | apply pw_below_drewN | apply below_drew1) | exact HB.out)) hb); have n1_ := Aside0.mk (hbox); have n2_ := Aside0.mk ((by rw [hg]; exact (below_size (by repeat (first | (with_reducible first | exact HB.out | apply below_alloc | apply pw_below_drewN | apply below_drew1) | exact HB.out))) : w.heap.size ≤ gb184)); have n3_ := Aside0.mk ((by rw [hg]; exact (below_size (by repeat (first | (with_reducible first | exact HB.out | apply below_alloc | apply pw_below_drewN | apply below_drew1) | exact HB.out))) : w.heap.size ≤ gb184)); clear HB; have HB := n0_; have BK184 := n1_; have GW184 := n2_; have GE184 := n3_; clear n0_ n1_ n2_ n3_; clear hb hbox hg) | ((with_reducible refine gate_dst (N := 3) rfl ?_); refine box_event ?hg (N := 3) ?hd (cs := #[.int .i64 a1_0, .int .i64 a1_1, .int .i64 a1_2]) (t := 39) ?hr ?_; (case hd => rfl); (case hg => rfl); (case hr => first | (go_simp; done) | (go_simp; rfl)); intro gb185 hg w22 hbox hb; have n0_ := Aside0.mk (blk_below (g := gb184) (o := .cells #[.int .i64 a0_0, .int .i64 a0_1, .int .i64 a0_2] 39 (0, 0)) (by (with_reducible repeat (first | refine blk_drewN ?_ _ | refine blk_drew ?_ | refine blk_alloc ?_ _)); exact BK184.out) hb); have n1_ := Aside0.mk (below_step (by repeat (first | (with_reducible first | exact HB.out | apply below_alloc | apply pw_below_drewN | apply below_drew1 | refine below_set ?_ GE184.out) | exact HB.out)) hb); have n2_ := Aside0.mk (hbox); have n3_ := Aside0.mk ((by rw [hg]; exact (below_size (by repeat (first | (with_reducible first | exact HB.out | apply below_alloc | apply pw_below_drewN | apply below_drew1 | refine below_set ?_ GE184.out) | exact HB.out))) : w.heap.size ≤ gb185)); have n4_ := Aside0.mk ((by rw [hg]; exact (below_size (by repeat (first | (with_reducible first | exact HB.out | apply below_alloc | apply pw_below_drewN | apply below_drew1 | refine below_set ?_ GE184.out) | exact HB.out))) : w.heap.size ≤ gb185)); have n5_ := Aside0.mk ((by rw [hg]; exact Nat.ne_of_lt (blk_lt (g := gb184) (o := .cells #[.int .i64 a0_0, .int .i64 a0_1, .int .i64 a0_2] 39 (0, 0)) (by (with_reducible repeat (first | refine blk_drewN ?_ _ | refine blk_drew ?_ | refine blk_alloc ?_ _)); exact BK184.out)) : gb184 ≠ gb185)); have n6_ := Aside0.mk ((by rw [hg]; exact Nat.ne_of_gt (blk_lt (g := gb184) (o := .cells #[.int .i64 a0_0, .int .i64 a0_1, .int .i64 a0_2] 39 (0, 0)) (by (with_reducible repeat (first | refine blk_drewN ?_ _ | refine blk_drew ?_ | refine blk_alloc ?_ _)); exact BK184.out)) : gb185 ≠ gb184)); clear BK184; clear HB; have BK184 := n0_; have HB := n1_; have BK185 := n2_; have GW185 := n3_; have GE185 := n4_; have NB184_185 := n5_; have NB185_184 := n6_; clear n0_ n1_ n2_ n3_ n4_ n5_ n6_; clear hb hbox hg; have hnb23 := NB184_185.out; have hnc23 := NB185_184.out; have hcz24_0 : w22.cell? ⟨gb184, 0, none⟩ = some (.int .i64 a0_0) := (blk_cell BK184.out 0).trans rfl; have hcz24_1 : w22.cell? ⟨gb184, 1, none⟩ = some (.int .i64 a0_1) := (blk_cell BK184.out 1).trans rfl; have hcz24_2 : w22.cell? ⟨gb184, 2, none⟩ = some (.int .i64 a0_2) := (blk_cell BK184.out 2).trans rfl; have hfz24_0 := blk_frozen BK184.out 0; have hfz24_1 := blk_frozen BK184.out 1; have hfz24_2 := blk_frozen BK184.out 2; have hcz25_0 : w22.cell? ⟨gb185, 0, none⟩ = some (.int .i64 a1_0) := (blk_cell BK185.out 0).trans rfl; have hcz25_1 : w22.cell? ⟨gb185, 1, none⟩ = some (.int .i64 a1_1) := (blk_cell BK185.out 1).trans rfl; have hcz25_2 : w22.cell? ⟨gb185, 2, none⟩ = some (.int .i64 a1_2) := (blk_cell BK185.out 2).trans rfl; have hfz25_0 := blk_frozen BK185.out 0; have hfz25_1 := blk_frozen BK185.out 1; have hfz25_2 := blk_frozen BK185.out 2))
    go_ret
    exact ⟨by first | rfl | (simp [errW_none, errW_some] <;> rfl) | (simp [*, errW_none, errW_some] <;> rfl), by repeat (first | (with_reducible first | exact HB.out | apply below_alloc | apply pw_below_drewN | apply below_drew1 | refine below_set ?_ GE184.out | refine below_set ?_ GE185.out) | exact HB.out)⟩

end Go.Proofs.Ytpakdddehianmaa.XFnExactOrderOnDay
