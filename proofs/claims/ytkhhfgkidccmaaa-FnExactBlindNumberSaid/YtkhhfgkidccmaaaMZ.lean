/- Proves: for every input, the law FnExactBlindNumber returns true and its argument reads afterwards as it read before. Conditions: none beyond those that the row itself states. -/
import Derived.Test.YtkhhfgkidccmaaaML
namespace Go.Proofs.Ytkhhfgkidccmaaa
open Go Go.RowKit Go.ChangeShapes Go.WideShapes Go.ChangeAt
set_option linter.unusedVariables false

theorem ownBlind : ownKnob Try.prog.godebug = none := by kernel_rfl
theorem laidBlind : laidOutB Try.prog = true := by kernel_rfl
set_option maxRecDepth 100000 in
theorem liftedBlind (os : Os) (started : os.Started) (H : Type) (enc : TypeId × Value → H) :
    ReturnsInHanded {} Try.checked os 3 .any (Rows.fnExactBlindNumberSpec.pre6 enc Try.prog Try.f3 Rows.fnExactBlindNumberRow.domain false) (Rows.fnExactBlindNumberSpec.post enc Try.prog Try.f3 false true false false) := by
  refine returnsInHanded_of_change (C := Try.checked) ownBlind started (by kernel_rfl) Try.func3
    (ChangeSpec.witness6 (enc := enc) (C := Try.checked) false ⟨#[], #[.agg #[.int .i64 0, .slice none 0 0]], []⟩ 8 (by kernel_rfl) (by kernel_rfl) (by kernel_rfl) (by kernel_rfl)) ?_
  intro W base args ds gs before hval0 hW hcnd _
  have hval : ∀ (j : Nat) t v, Try.f3.params[j]? = some t → args[j]? = some v → Value.okWide Try.prog W .any base t v := hval0
  have hW' := hW
  obtain ⟨p, q, hA0, hV, rfl, hfz, hnd⟩ := hW
  have hA : DataW.TrodAll enc Try.prog W 0 (fun _ => true) true Try.f3.params.toList args.toList ds p := hA0
  rw [Try.params3] at hA hval
  obtain ⟨v0, d0, rfl, rfl, h0⟩ := trodAll_one hA
  obtain ⟨rfl, rfl⟩ := trodVars_none hV
  obtain ⟨n, es, hro⟩ := J.rd_graph Try.underlying24 Try.underlying3 Try.underlying22 Try.underlying46 Try.underlying3 (by kernel_rfl) (by kernel_rfl) (by kernel_rfl) (by kernel_rfl) (by kernel_rfl) rfl rfl (hval 0 24 v0 rfl rfl) h0
  refine (J.law_true (J.Law_spec n es) W #[v0] rfl (fun j a u ha hu => by
    match j, ha, hu with
    | 0, ha, hu => cases ha; cases hu; exact hro
    | j + 1, ha, hu => cases ha)).mono fun e W' ⟨he, hg⟩ => ?_
  subst he
  have hlt : ∀ x ∈ p, x.block < W.heap.size := fun x hx => by simpa using hW'.lt x (by simpa using hx)
  exact ⟨_, rfl, J.post_below (pa := p) (pv := []) hW' (fun _ _ _ => trodAll_cons_mk (shut_bool Try.underlying4 _) trodAll_mk0)
    (trodAll_mk1 (Below.trod laidBlind (by kernel_rfl) (of_decide_eq_true (by kernel_rfl)) h0 hg hlt)) rfl (by simp) (hg.frame _)⟩
theorem overBlind : Rows.fnExactBlindNumberRow.holds Try.pinned (OpenSpec.ofChange Rows.fnExactBlindNumberSpec) :=
  OpenClaim.holds_of_wide 3 Try.f3 rfl rfl rfl rfl rfl rfl rfl ⟨rfl, rfl, rfl, rfl, rfl⟩ rfl rfl rfl rfl rfl (by kernel_rfl) Try.func3 (by kernel_rfl)
    (of_decide_eq_true (by kernel_rfl)) (by unfold Func.isWrapper; first | (rw [if_pos (by decide +kernel)]; kernel_rfl) | (rw [if_neg (by decide +kernel)]; exact ⟨rfl, rfl⟩))
    (fun os started H enc _ => liftedBlind os started H enc)
/-- The statement. -/
theorem fnExactBlindNumber_holds : Rows.FnExactBlindNumberSaid := overBlind

#print axioms fnExactBlindNumber_holds
end Go.Proofs.Ytkhhfgkidccmaaa
