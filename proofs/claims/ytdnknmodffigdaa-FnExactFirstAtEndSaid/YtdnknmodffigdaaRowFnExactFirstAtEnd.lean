/- The law FnExactFirstAtEnd, for every input that its row lets in: its contract and the plain law joined to the given statement. No condition of its own. -/
import Derived.Test.YtdnknmodffigdaaRows
import Derived.Test.YtdnknmodffigdaaXFnExactFirstAtEndx3
import Derived.Test.YtdnknmodffigdaaPureFnExactFirstAtEnd
import Derived.Test.YtdnknmodffigdaaOpen
import Derived.Test.YtdnknmodffigdaaWSized
import Derived.WalkKit
import Derived.ProofKit
import Derived.OpenShut
import Derived.ShutString
import Derived.ChangeOld
import Derived.Below
import Derived.SizedLaws
set_option linter.unusedVariables false
namespace Go.Proofs.Ytdnknmodffigdaa.fnExactFirstAtEnd
open Go.ChangeShapes Go.WideShapes Go.ChangeAt Go.RowKit
open Go.ChangeMaps (open_string shut_string)
theorem own : ownKnob Try.prog.godebug = none := by kernel_rfl
theorem laidOut : laidOutB Try.prog = true := by kernel_rfl
set_option maxHeartbeats 4000000 in
set_option maxRecDepth 100000 in
theorem lifted (os : Os) (started : os.Started) (H : Type) (enc : TypeId × Value → H) :
    ReturnsInHanded {} Try.checked os 14 .any (Rows.fnExactFirstAtEndSpec.pre6 enc Try.prog Try.f14 Rows.fnExactFirstAtEndRow.domain false) (Rows.fnExactFirstAtEndSpec.post enc Try.prog Try.f14 false true false false) := by
  refine returnsInHanded_of_change_sized (C := Try.checked) own started (by kernel_rfl) Try.func14
    (ChangeSpec.witness6 (enc := enc) (C := Try.checked) false ⟨#[], #[.int .i64 0, .slice none 0 0], []⟩ 8 (by kernel_rfl) (by kernel_rfl) (by kernel_rfl) (by kernel_rfl)) ?_
  intro W base args ds gs before hval0 hW hcnd hsz0 _
  have hsz : (DataW.weightsEach Try.prog (Try.f14.params.toList ++ Rows.fnExactFirstAtEndSpec.plain.varTypes Try.prog) (ds ++ gs)).all (· ≤ reachBytes) = true := hsz0
  have hval : ∀ (j : Nat) t v, Try.f14.params[j]? = some t → args[j]? = some v → Value.okWide Try.prog W .any base t v := hval0
  have hW' := hW
  obtain ⟨p, q, hA0, hV, rfl, hfz, hnd⟩ := hW
  have hA : DataW.TrodAll enc Try.prog W 0 (fun _ => true) true Try.f14.params.toList args.toList ds p := hA0
  rw [Try.params14] at hA hval hsz
  obtain ⟨v0, vs0, d0, ds0, p0, q0, hargs, rfl, rfl, h0, r0⟩ := trodAll_cons hA
  obtain ⟨v1, vs1, d1, ds1, p1, q1, rfl, rfl, rfl, h1, r1⟩ := trodAll_cons r0
  obtain ⟨rfl, rfl, rfl⟩ := trodAll_nil r1
  obtain rfl : args = #[v0, v1] := by cases args; simp_all
  obtain ⟨rfl, rfl⟩ := trodVars_none hV
  have k0 := h0
  have lt0 : ∀ x ∈ p0, x.block < W.heap.size := by obtain ⟨m, hm⟩ := k0; exact DataW.trod_lt m _ _ _ hm
  obtain ⟨a0, rfl, _, _, w0⟩ := open_int Try.underlying3 (hval 0 3 v0 rfl rfl) k0
  have k1 := h1
  have lt1 : ∀ x ∈ p1, x.block < W.heap.size := by obtain ⟨m, hm⟩ := k1; exact DataW.trod_lt m _ _ _ hm
  obtain ⟨A1, c1, l1, rfl, rr1, m1, w1, q1⟩ : ∃ (A : Option Addr) (c : Nat) (l : List XFnExactFirstAtEnd.S23), v1 = .slice A l.length c ∧ YtdnknmodffigdaaW.PrintWords.Kd.C XFnExactFirstAtEnd.k23 W A l.length l ∧ l.length ≤ maxLen ∧ (∀ x ∈ l, (Lit.int .i64 x.f0).wf = true ∧ (Lit.int .i64 x.f1).wf = true ∧ (Lit.int .i64 x.f2).wf = true) ∧ l.length ≤ c := by
    obtain ⟨A, c, z, e, h2, h3, h4, h5⟩ := Op.structs3 Try.underlying44 Try.underlying23 (by kernel_rfl) (by kernel_rfl) Try.underlying3 Try.underlying3 Try.underlying3 (hval 1 44 v1 rfl rfl) k1
    refine ⟨A, c, z.map fun x => (⟨x.1, x.2.1, x.2.2⟩ : XFnExactFirstAtEnd.S23), by rw [List.length_map]; exact e, by rw [List.length_map]; exact Op.C_iso (f := fun x : XFnExactFirstAtEnd.S23 => (x.f0, x.f1, x.f2)) (g := fun x => (⟨x.1, x.2.1, x.2.2⟩ : XFnExactFirstAtEnd.S23)) (fun _ => rfl) h2, by rw [List.length_map]; exact h3, ?_, by rw [List.length_map]; exact h5⟩
    intro x hx
    obtain ⟨y, hy, rfl⟩ := List.mem_map.1 hx
    exact h4 y hy
  clear hA0 hval0 hsz0 hsz
  obtain ⟨k, h⟩ := Pure.FnExactFirstAtEnd a0 l1 w0 m1 w1
  refine (XFnExactFirstAtEnd.laws_FnExactFirstAtEnd.calls k a0 _ _ l1 true W rr1 q1 h).mono fun e W' ⟨he, bel0⟩ => ?_
  have bel : Below W.heap.size W W' := bel0
  subst he
  exact ⟨_, rfl, _, _, _, [], _, [], hW', trodAll_mk1 (shut_bool Try.underlying4 _), (trodAll_cons_mk (Below.trod laidOut (by kernel_rfl) (of_decide_eq_true (by kernel_rfl)) k0 bel lt0) (trodAll_cons_mk (Below.trod laidOut (by kernel_rfl) (of_decide_eq_true (by kernel_rfl)) k1 bel lt1) trodAll_mk0)), rfl, bel.frame _, fun h => by cases h⟩
theorem over : Rows.fnExactFirstAtEndRow.holds Try.pinned (OpenSpec.ofChange Rows.fnExactFirstAtEndSpec) :=
  OpenClaim.holds_of_wide 14 Try.f14 rfl rfl rfl rfl rfl rfl rfl ⟨rfl, rfl, rfl, rfl, rfl⟩ rfl rfl rfl rfl rfl (by kernel_rfl) Try.func14 (by kernel_rfl)
    (of_decide_eq_true (by kernel_rfl)) (by unfold Func.isWrapper; first | (rw [if_pos (by decide +kernel)]; kernel_rfl) | (rw [if_neg (by decide +kernel)]; exact ⟨rfl, rfl⟩))
    (fun os started H enc _ => lifted os started H enc)
theorem proved : Rows.FnExactFirstAtEndSaid := over
#print axioms proved
end Go.Proofs.Ytdnknmodffigdaa.fnExactFirstAtEnd
namespace Go.Proofs.Ytdnknmodffigdaa
theorem fnExactFirstAtEnd_holds : Rows.FnExactFirstAtEndSaid := fnExactFirstAtEnd.proved
end Go.Proofs.Ytdnknmodffigdaa
