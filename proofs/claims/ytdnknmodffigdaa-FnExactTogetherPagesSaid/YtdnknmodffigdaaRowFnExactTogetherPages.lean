/- The law FnExactTogetherPages, for every input that its row lets in: its contract and the plain law joined to the given statement. No condition of its own. -/
import Derived.Test.YtdnknmodffigdaaRows
import Derived.Test.YtdnknmodffigdaaXFnExactTogetherPagesx3
import Derived.Test.YtdnknmodffigdaaPureFnExactTogetherPages
import Derived.Test.YtdnknmodffigdaaOpen
import Derived.Test.YtdnknmodffigdaaWSized
import Derived.WalkKit
import Derived.ProofKit
import Derived.OpenShut
import Derived.ShutString
import Derived.ChangeOld
import Derived.Below
import Derived.SizedLaws
set_option linter.unusedVariables false
namespace Go.Proofs.Ytdnknmodffigdaa.fnExactTogetherPages
open Go.ChangeShapes Go.WideShapes Go.ChangeAt Go.RowKit
open Go.ChangeMaps (open_string shut_string)
theorem own : ownKnob Try.prog.godebug = none := by kernel_rfl
theorem laidOut : laidOutB Try.prog = true := by kernel_rfl
set_option maxHeartbeats 4000000 in
set_option maxRecDepth 100000 in
theorem lifted (os : Os) (started : os.Started) (H : Type) (enc : TypeId × Value → H) :
    ReturnsInHanded {} Try.checked os 12 .any (Rows.fnExactTogetherPagesSpec.pre6 enc Try.prog Try.f12 Rows.fnExactTogetherPagesRow.domain false) (Rows.fnExactTogetherPagesSpec.post enc Try.prog Try.f12 false true false false) := by
  refine returnsInHanded_of_change_sized (C := Try.checked) own started (by kernel_rfl) Try.func12
    (ChangeSpec.witness6 (enc := enc) (C := Try.checked) false ⟨#[], #[.slice none 0 0, .int .i64 0], []⟩ 8 (by kernel_rfl) (by kernel_rfl) (by kernel_rfl) (by kernel_rfl)) ?_
  intro W base args ds gs before hval0 hW hcnd hsz0 _
  have hsz : (DataW.weightsEach Try.prog (Try.f12.params.toList ++ Rows.fnExactTogetherPagesSpec.plain.varTypes Try.prog) (ds ++ gs)).all (· ≤ reachBytes) = true := hsz0
  have hval : ∀ (j : Nat) t v, Try.f12.params[j]? = some t → args[j]? = some v → Value.okWide Try.prog W .any base t v := hval0
  have hW' := hW
  obtain ⟨p, q, hA0, hV, rfl, hfz, hnd⟩ := hW
  have hA : DataW.TrodAll enc Try.prog W 0 (fun _ => true) true Try.f12.params.toList args.toList ds p := hA0
  rw [Try.params12] at hA hval hsz
  obtain ⟨v0, vs0, d0, ds0, p0, q0, hargs, rfl, rfl, h0, r0⟩ := trodAll_cons hA
  obtain ⟨v1, vs1, d1, ds1, p1, q1, rfl, rfl, rfl, h1, r1⟩ := trodAll_cons r0
  obtain ⟨rfl, rfl, rfl⟩ := trodAll_nil r1
  obtain rfl : args = #[v0, v1] := by cases args; simp_all
  obtain ⟨rfl, rfl⟩ := trodVars_none hV
  have k0 := h0
  have lt0 : ∀ x ∈ p0, x.block < W.heap.size := by obtain ⟨m, hm⟩ := k0; exact DataW.trod_lt m _ _ _ hm
  obtain ⟨A0, c0, l0, rfl, rr0, m0, w0, q0⟩ : ∃ (A : Option Addr) (c : Nat) (l : List XFnExactTogetherPages.S23), v0 = .slice A l.length c ∧ YtdnknmodffigdaaW.PrintWords.Kd.C XFnExactTogetherPages.k23 W A l.length l ∧ l.length ≤ maxLen ∧ (∀ x ∈ l, (Lit.int .i64 x.f0).wf = true ∧ (Lit.int .i64 x.f1).wf = true ∧ (Lit.int .i64 x.f2).wf = true) ∧ l.length ≤ c := by
    obtain ⟨A, c, z, e, h2, h3, h4, h5⟩ := Op.structs3 Try.underlying44 Try.underlying23 (by kernel_rfl) (by kernel_rfl) Try.underlying3 Try.underlying3 Try.underlying3 (hval 0 44 v0 rfl rfl) k0
    refine ⟨A, c, z.map fun x => (⟨x.1, x.2.1, x.2.2⟩ : XFnExactTogetherPages.S23), by rw [List.length_map]; exact e, by rw [List.length_map]; exact Op.C_iso (f := fun x : XFnExactTogetherPages.S23 => (x.f0, x.f1, x.f2)) (g := fun x => (⟨x.1, x.2.1, x.2.2⟩ : XFnExactTogetherPages.S23)) (fun _ => rfl) h2, by rw [List.length_map]; exact h3, ?_, by rw [List.length_map]; exact h5⟩
    intro x hx
    obtain ⟨y, hy, rfl⟩ := List.mem_map.1 hx
    exact h4 y hy
  have k1 := h1
  have lt1 : ∀ x ∈ p1, x.block < W.heap.size := by obtain ⟨m, hm⟩ := k1; exact DataW.trod_lt m _ _ _ hm
  obtain ⟨a1, rfl, _, _, w1⟩ := open_int Try.underlying3 (hval 1 3 v1 rfl rfl) k1
  clear hA0 hval0 hsz0 hsz
  obtain ⟨k, h⟩ := Pure.FnExactTogetherPages l0 a1 m0 w0 w1
  refine (XFnExactTogetherPages.laws_FnExactTogetherPages.calls k _ _ l0 a1 true W rr0 q0 h).mono fun e W' ⟨he, bel0⟩ => ?_
  have bel : Below W.heap.size W W' := bel0
  subst he
  exact ⟨_, rfl, _, _, _, [], _, [], hW', trodAll_mk1 (shut_bool Try.underlying4 _), (trodAll_cons_mk (Below.trod laidOut (by kernel_rfl) (of_decide_eq_true (by kernel_rfl)) k0 bel lt0) (trodAll_cons_mk (Below.trod laidOut (by kernel_rfl) (of_decide_eq_true (by kernel_rfl)) k1 bel lt1) trodAll_mk0)), rfl, bel.frame _, fun h => by cases h⟩
theorem over : Rows.fnExactTogetherPagesRow.holds Try.pinned (OpenSpec.ofChange Rows.fnExactTogetherPagesSpec) :=
  OpenClaim.holds_of_wide 12 Try.f12 rfl rfl rfl rfl rfl rfl rfl ⟨rfl, rfl, rfl, rfl, rfl⟩ rfl rfl rfl rfl rfl (by kernel_rfl) Try.func12 (by kernel_rfl)
    (of_decide_eq_true (by kernel_rfl)) (by unfold Func.isWrapper; first | (rw [if_pos (by decide +kernel)]; kernel_rfl) | (rw [if_neg (by decide +kernel)]; exact ⟨rfl, rfl⟩))
    (fun os started H enc _ => lifted os started H enc)
theorem proved : Rows.FnExactTogetherPagesSaid := over
#print axioms proved
end Go.Proofs.Ytdnknmodffigdaa.fnExactTogetherPages
namespace Go.Proofs.Ytdnknmodffigdaa
theorem fnExactTogetherPages_holds : Rows.FnExactTogetherPagesSaid := fnExactTogetherPages.proved
end Go.Proofs.Ytdnknmodffigdaa
