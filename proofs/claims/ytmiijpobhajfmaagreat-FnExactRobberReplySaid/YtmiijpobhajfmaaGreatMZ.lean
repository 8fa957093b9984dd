/- Proves: for every input, the law FnExactRobberReply returns true and its arguments read afterwards as they read before. Conditions: none beyond those that the row itself states. -/
import Derived.Test.YtmiijpobhajfmaaGreatML
import Derived.Test.YtmiijpobhajfmaaGreatMN
namespace Go.Proofs.YtmiijpobhajfmaaGreat
open Go Go.RowKit Go.ChangeShapes Go.WideShapes Go.ChangeAt
set_option linter.unusedVariables false

theorem ownRob : ownKnob Tryz.prog.godebug = none := by kernel_rfl
theorem laidRob : laidOutB Tryz.prog = true := by kernel_rfl
set_option maxRecDepth 100000 in
theorem liftedRob (os : Os) (started : os.Started) (H : Type) (enc : TypeId × Value → H) :
    ReturnsInHanded {} Tryz.checked os 7 .any (Rows.fnExactRobberReplySpec.pre6 enc Tryz.prog Tryz.f7 Rows.fnExactRobberReplyRow.domain false) (Rows.fnExactRobberReplySpec.post enc Tryz.prog Tryz.f7 false true false false) := by
  refine returnsInHanded_of_change (C := Tryz.checked) ownRob started (by kernel_rfl) Tryz.func7
    (ChangeSpec.witness6 (enc := enc) (C := Tryz.checked) false ⟨#[], #[.agg #[.int .i64 0, .slice none 0 0], .slice none 0 0, .int .i64 0], []⟩ 8 (by kernel_rfl) (by kernel_rfl) (by kernel_rfl) (by kernel_rfl)) ?_
  intro W base args ds gs before hval0 hW hcnd _
  have hval : ∀ (j : Nat) t v, Tryz.f7.params[j]? = some t → args[j]? = some v → Value.okWide Tryz.prog W .any base t v := hval0
  have hW' := hW
  obtain ⟨p, q, hA0, hV, rfl, hfz, hnd⟩ := hW
  have hA : DataW.TrodAll enc Tryz.prog W 0 (fun _ => true) true Tryz.f7.params.toList args.toList ds p := hA0
  rw [Tryz.params7] at hA hval
  obtain ⟨v0, vs0, d0, ds0, p0, q0, hargs, rfl, rfl, h0, r0⟩ := trodAll_cons hA
  obtain ⟨v1, vs1, d1, ds1, p1, q1, rfl, rfl, rfl, h1, r1⟩ := trodAll_cons r0
  obtain ⟨v2, vs2, d2, ds2, p2, q2, rfl, rfl, rfl, h2, r2⟩ := trodAll_cons r1
  obtain ⟨rfl, rfl, rfl⟩ := trodAll_nil r2
  obtain rfl : args = #[v0, v1, v2] := by cases args; simp_all
  obtain ⟨rfl, rfl⟩ := trodVars_none hV
  obtain ⟨n, es, hro0⟩ := J.rd_graph Tryz.underlying24 Tryz.underlying3 Tryz.underlying22 Tryz.underlying89 Tryz.underlying3 (by kernel_rfl) (by kernel_rfl) (by kernel_rfl) (by kernel_rfl) (by kernel_rfl) rfl rfl (hval 0 24 v0 rfl rfl) h0
  obtain ⟨cs, hro1⟩ := J.rd_list Tryz.underlying37 Tryz.underlying3 (by kernel_rfl) (hval 1 37 v1 rfl rfl) h1
  obtain ⟨x, rfl⟩ := J.rd_num Tryz.underlying3 (hval 2 3 v2 rfl rfl) h2
  refine (J.law_true (J.LawRob_spec n es cs x) W #[v0, v1, .int .i64 x] rfl (fun j a u ha hu => by
    match j, ha, hu with
    | 0, ha, hu => cases ha; cases hu; exact hro0
    | 1, ha, hu => cases ha; cases hu; exact hro1
    | 2, ha, hu => cases ha; cases hu; exact .val _
    | j + 3, ha, hu => cases ha)).mono fun e W' ⟨he, hg⟩ => ?_
  subst he
  have hlt : ∀ x ∈ p0 ++ (p1 ++ (p2 ++ [])), x.block < W.heap.size := fun x hx => by simpa using hW'.lt x (by simpa using hx)
  exact ⟨_, rfl, J.post_below (pa := p0 ++ (p1 ++ (p2 ++ []))) (pv := []) hW' (fun _ _ _ => trodAll_cons_mk (shut_bool Tryz.underlying4 _) trodAll_mk0)
    (trodAll_cons_mk (Below.trod laidRob (by kernel_rfl) (of_decide_eq_true (by kernel_rfl)) h0 hg (fun x hx => hlt x (by simp [hx])))
      (trodAll_cons_mk (Below.trod laidRob (by kernel_rfl) (of_decide_eq_true (by kernel_rfl)) h1 hg (fun x hx => hlt x (by simp [hx])))
        (trodAll_cons_mk (Below.trod laidRob (by kernel_rfl) (of_decide_eq_true (by kernel_rfl)) h2 hg (fun x hx => hlt x (by simp [hx]))) trodAll_mk0))) rfl (by simp) (hg.frame _)⟩
theorem overRob : Rows.fnExactRobberReplyRow.holds Tryz.pinned (OpenSpec.ofChange Rows.fnExactRobberReplySpec) :=
  OpenClaim.holds_of_wide 7 Tryz.f7 rfl rfl rfl rfl rfl rfl rfl ⟨rfl, rfl, rfl, rfl, rfl⟩ rfl rfl rfl rfl rfl (by kernel_rfl) Tryz.func7 (by kernel_rfl)
    (of_decide_eq_true (by kernel_rfl)) (by unfold Func.isWrapper; first | (rw [if_pos (by decide +kernel)]; kernel_rfl) | (rw [if_neg (by decide +kernel)]; exact ⟨rfl, rfl⟩))
    (fun os started H enc _ => liftedRob os started H enc)
/-- The statement. -/
theorem fnExactRobberReply_holds : Rows.FnExactRobberReplySaid := overRob

#print axioms fnExactRobberReply_holds
end Go.Proofs.YtmiijpobhajfmaaGreat
