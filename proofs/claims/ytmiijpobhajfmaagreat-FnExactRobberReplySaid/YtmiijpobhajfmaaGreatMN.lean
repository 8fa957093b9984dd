/- Walks of RobberReply and its law, written by a program from annotations. No statement of the seat is proved in this text. -/
import Derived.Test.YtmiijpobhajfmaaGreatMM
namespace Go.Proofs.YtmiijpobhajfmaaGreat.J
open Go Go.RowKit
set_option maxRecDepth 20000
set_option linter.unusedVariables false
set_option linter.unusedSimpArgs false

theorem TF_ok {cn : List (List Int) → Int → Int → Bool} {M n : Nat} {B : Int} : ∀ (f : Nat) (tbl : List (List Int)) (t b : Int), okT M n b tbl → 0 ≤ t → b ≤ B → t + f ≤ B → okT M n B (TF cn M n f tbl t)
  | 0, tbl, t, b, h, _, hb, _ => ⟨h.len, h.row, fun r hr v hv => by have := h.lo r hr v hv; omega⟩
  | f + 1, tbl, t, b, h, h0, hb, ht => by
    simp only [TF]
    split
    · exact ⟨h.len, h.row, fun r hr v hv => by have := h.lo r hr v hv; omega⟩
    · exact TF_ok f _ _ _ (stepT_ok (b' := B) h h0 hb (by omega)) (by omega) (Int.le_refl _) (by omega)
theorem ttI_ok {n k : Nat} {es : List (Int × Int)} (hn : n ≤ 8) (hk : k ≤ 3) : okT (cfgL n k).length n 10000 (ttI n k es) := by
  have h1 := negs_le (M := 0) (tbl0 n k) (tbl0_ok n k).row
  rw [(tbl0_ok n k).len] at h1
  have h2 : (cfgL n k).length * n ≤ 512 * 8 := Nat.mul_le_mul (cfg_len3 hn hk) hn
  exact TF_ok _ _ _ 0 (tbl0_ok n k) (by omega) (by omega) (by omega)
/-- What the reference's RobberReply returns. -/
def rrS (n : Int) (es : List (Int × Int)) (cs : List Int) (x : Int) : Int × Bool := if meetsG n es cs x = true then (fleeF (gi (ttI n.toNat cs.length es) (atL (cfgL n.toNat cs.length) cs)) (ballG n.toNat es x), true) else (0, false)
theorem sorted_pw {cs : List Int} (h : ∀ i : Nat, i + 1 < cs.length → gi cs (i : Int) ≤ gi cs ((i : Int) + 1)) : cs.Pairwise (· ≤ ·) := by
  rw [List.pairwise_iff_getElem]
  have key : ∀ d i : Nat, (hj : i + d < cs.length) → cs[i]'(by omega) ≤ cs[i + d] := by
    intro d
    induction d with
    | zero => intro i hj; exact Int.le_refl _
    | succ d ih =>
      intro i hj
      have h1 := ih i (by omega)
      have h2 := h (i + d) (by omega)
      rw [show ((i + d : Nat) : Int) + 1 = ((i + d + 1 : Nat) : Int) by omega, gi_natG (by omega), gi_natG (by omega)] at h2
      exact Int.le_trans h1 h2
  intro i j hi hj hij
  have := key (j - i) i (by omega)
  simpa [show i + (j - i) = j by omega] using this
theorem cops_at {n : Int} {cs : List Int} (h : copsG n cs = true) : ∀ i : Nat, i < cs.length → (0 ≤ gi cs (i : Int) ∧ gi cs (i : Int) ≤ n - 1) ∧ (0 < i → gi cs ((i : Int) - 1) ≤ gi cs (i : Int)) := by
  intro i hi
  have := (List.all_eq_true.1 h) i (by simpa using hi)
  simp only [copB, inN, Bool.and_eq_true, Bool.or_eq_true, decide_eq_true_eq] at this
  refine ⟨this.1, fun h0 => ?_⟩
  rcases this.2 with h | h
  · omega
  · exact h
theorem cops_cfg {n : Nat} {cs : List Int} (h : copsG (n : Int) cs = true) : cs ∈ cfgL n cs.length := by
  have ha := cops_at h
  refine cfg_complete n cs.length cs rfl (sorted_pw (fun i hi => ?_)) (fun x hx => ?_)
  · have := (ha (i + 1) hi).2 (by omega)
    rw [show ((i + 1 : Nat) : Int) - 1 = (i : Int) by omega] at this
    rw [show (i : Int) + 1 = ((i + 1 : Nat) : Int) by omega]
    exact this
  · obtain ⟨j, hj, rfl⟩ := mem_gi hx
    have := (ha j hj).1
    omega
theorem cops_impl {n : Int} {cs : List Int} : (cs.all (inN n) && sortedB cs) = copsG n cs := by
  rw [Bool.eq_iff_iff]
  constructor
  · intro h
    rw [Bool.and_eq_true] at h
    unfold copsG
    rw [List.all_eq_true]
    intro i hi
    rw [List.mem_range] at hi
    have h1 := (List.all_eq_true.1 h.1) _ (gi_mem (l := cs) (i := i) (by omega))
    unfold copB
    rw [h1, Bool.true_and, Bool.or_eq_true, decide_eq_true_eq, decide_eq_true_eq]
    rcases i with _ | i
    · exact .inl rfl
    · refine .inr ?_
      have h2 := (List.all_eq_true.1 h.2) i (by rw [List.mem_range]; omega)
      rw [decide_eq_true_eq] at h2
      rw [show ((i + 1 : Nat) : Int) - 1 = (i : Int) by omega, show ((i + 1 : Nat) : Int) = (i : Int) + 1 by omega]
      exact h2
  · intro h
    have ha := cops_at h
    rw [Bool.and_eq_true]
    constructor
    · rw [List.all_eq_true]
      intro x hx
      obtain ⟨j, hj, rfl⟩ := mem_gi hx
      have := (ha j hj).1
      unfold inN
      simp only [Bool.and_eq_true, decide_eq_true_eq]
      exact this
    · unfold sortedB
      rw [List.all_eq_true]
      intro i hi
      rw [List.mem_range] at hi
      rw [decide_eq_true_eq]
      have := (ha (i + 1) (by omega)).2 (by omega)
      rw [show ((i + 1 : Nat) : Int) - 1 = (i : Int) by omega] at this
      rw [show (i : Int) + 1 = ((i + 1 : Nat) : Int) by omega]
      exact this
theorem meets_parts {n : Int} {es : List (Int × Int)} {cs : List Int} {x : Int} (h : meetsG n es cs x = true) : fieldG n es cs.length = true ∧ copsG n cs = true ∧ (0 ≤ x ∧ x ≤ n - 1) ∧ cs.contains x = false := by
  simp only [meetsG, inN, Bool.and_eq_true, decide_eq_true_eq, Bool.not_eq_true'] at h
  exact ⟨h.1.1.1, h.1.1.2, h.1.2, h.2⟩
theorem fgood {n : Int} {es : List (Int × Int)} {k : Int} (h : fieldG n es k = true) : goodG n es = true := by
  simp only [fieldG, Bool.and_eq_true] at h
  exact h.1.1
theorem meets_impl (n : Int) (es : List (Int × Int)) (cs : List Int) (x : Int) : meetsG n es cs x = ((fieldG n es cs.length && (goodG n es && cs.all (inN n)) && sortedB cs) && (goodG n es && [x].all (inN n)) && !cs.contains x) := by
  unfold meetsG
  rw [← cops_impl]
  cases hF : fieldG n es cs.length with
  | false => simp
  | true =>
    have hg := fgood hF
    rw [hg, show [x].all (inN n) = inN n x by simp]
    cases cs.all (inN n) <;> cases sortedB cs <;> cases inN n x <;> cases cs.contains x <;> simp_all
theorem rrS_no {n : Int} {es : List (Int × Int)} {cs : List Int} {x : Int} (h : meetsG n es cs x = false) : rrS n es cs x = (0, false) := by unfold rrS; rw [h]; rfl

theorem RobS_spec (n : Int) (es : List (Int × Int)) (cs : List Int) (x : Int) (hl : es.length < 2^40) (hll : cs.length < 2^40) : Spec Tryz.prog 33 [Gr n es, L cs, I x] (.tup [I (rrS n es cs x).1, B (rrS n es cs x).2]) [] := by
  refine Spec.intro (c := _) Tryz.func33 rfl (Nat.le_of_ble_eq_true rfl) (fun C hC hfx => ?_)
  have hn : C.n = 27 := hC
  refine (show J _ _ _ _ (⟨[(0, Gr n es), (1, L cs), (2, I x)], []⟩ : AS) from ?_)
  refine J_seq ?_
  refine J_region ?_
  refine jl_o rfl (op_box_agg rfl rfl (ltn hn rfl) rfl rfl rfl) ?_
  refine jl rfl rfl (ltn hn rfl) (pure_assign rfl rfl) ?_
  refine jl rfl rfl (ltn hn rfl) (pure_assign rfl rfl) ?_
  refine JL_nil ?_
  refine J_seq ?_
  refine J_seq ?_
  refine J_region ?_
  refine jl rfl rfl (ltn hn rfl) (p_ld_ba rfl rfl rfl (Nat.le_of_ble_eq_true rfl) rfl) ?_
  refine jl rfl rfl (ltn hn rfl) (pure_move rfl rfl) ?_
  refine jl rfl rfl (ltn hn rfl) (pure_move rfl rfl) ?_
  refine jl_o rfl (@op_call _ _ _ _ _ _ [.tmp 9, .tmp 10, .tmp 11] _ _ _ _ _ (Meets_spec _ _ _ _ (by omega) (by omega)) rfl Tryz.func69 rfl rfl rfl (ltn hn rfl) ⟨rfl, rfl, ⟨rfl, rfl, ⟨rfl, rfl, trivial⟩⟩⟩ rfl rfl) ?_
  refine jl rfl rfl (ltn hn rfl) (pure_not_b rfl rfl) ?_
  refine JL_nil ?_
  refine J_cond rfl (fun h1 => ?_) (fun h1 => ?_)
  ·
    refine J_seq ?_
    refine J_region ?_
    refine jl rfl rfl (ltn hn rfl) (pure_assign rfl rfl) ?_
    refine jl rfl rfl (ltn hn rfl) (pure_assign rfl rfl) ?_
    refine JL_nil ?_
    refine J_ret ?_
    exact Fin_two rfl (Le_sub C _ _ ⟨(eqv rfl (vi (by unfold rrS; rw [if_neg (by simpa using h1)]))), (eqv rfl (vb (by unfold rrS; rw [if_neg (by simpa using h1)]))), trivial⟩ trivial rfl rfl) rfl
  ·
    have hM : meetsG n es cs x = true := by simpa using h1
    obtain ⟨hF, hC2, hxr, hcx⟩ := meets_parts hM
    have hfb := field_bd hF
    obtain ⟨n0, rfl⟩ : ∃ n0 : Nat, n = n0 := ⟨n.toNat, by omega⟩
    have hG := fgood hF
    have hn8 := good_n hG
    have hk3 : cs.length ≤ 3 := by omega
    have hmem := cops_cfg hC2
    have hat := at_mem hmem
    have hok := ttI_ok (es := es) hn8 hk3
    have hcl := cfg_len3 hn8 hk3
    have hcm := cfg_mem n0 cs.length
    have hce : ∀ y ∈ (cfgL n0 cs.length), y.length < 2 ^ 40 := fun y hy => by have := (hcm y hy).1; omega
    have hrow : (gi (ttI n0 cs.length es) (atL (cfgL n0 cs.length) cs)).length = n0 := hok.row _ (gi_memI (by rw [hok.len]; omega))
    have hbx : gi ((ints n0).map (ballG n0 es)) x = ballG n0 es x := gi_ints (by omega)
    have hbr : ∀ b ∈ ballG n0 es x, 0 ≤ b ∧ b < n0 := fun b hb => ((mem_ball (by omega)).1 hb).1
    have hself : x ∈ ballG n0 es x := (mem_ball (by omega)).2 ⟨by omega, .inr rfl⟩
    have hlen := ball_len hn8 es x
    have hpos := List.length_pos_of_mem hself
    have hoL := hok.len
    have hblL : ((ints n0).map (ballG n0 es)).length = n0 := by rw [List.length_map, ints_length]
    refine J_skip ?_
    refine J_seq ?_
    refine J_region ?_
    refine jl rfl rfl (ltn hn rfl) (p_ld_ba rfl rfl rfl (Nat.le_of_ble_eq_true rfl) rfl) ?_
    refine jl rfl rfl (ltn hn rfl) (pure_move rfl rfl) ?_
    refine jl rfl rfl (ltn hn rfl) (p_len_m rfl rfl) ?_
    refine jl_o rfl (@op_call _ _ _ _ _ _ [.tmp 14, .tmp 16] _ _ _ _ _ (Make_spec n0 cs.length es (by omega) (by omega) (by omega)) rfl Tryz.func67 rfl rfl rfl (ltn hn rfl) ⟨rfl, rfl, ⟨rfl, rfl, trivial⟩⟩ rfl rfl) ?_
    refine jl_o rfl (@op_alloc _ _ _ _ _ _ _ rfl ZrT.out rfl rfl (ltn hn rfl) rfl) ?_
    refine jl_o rfl (op_store_box_agg rfl rfl (by exact SzT.out) rfl rfl (by exact Nat.le_of_ble_eq_true rfl) rfl rfl) ?_
    refine JL_nil ?_
    refine J_seq ?_
    refine J_mixed [20, 24, 26] follows_mixed (by kernel_rfl) ?_
    refine JD1_read 0 rfl (by kernel_rfl) (by kernel_rfl) (by kernel_rfl) rfl rfl (ltn hn rfl) (p_ld_ba rfl rfl rfl (Nat.le_of_ble_eq_true rfl) rfl) rfl ?_
    refine JD1_read 1 rfl (by kernel_rfl) (by kernel_rfl) (by kernel_rfl) rfl rfl (ltn hn rfl) (p_ld_ba rfl rfl rfl (Nat.le_of_ble_eq_true rfl) rfl) rfl ?_
    refine JD1_read 3 rfl (by kernel_rfl) (by kernel_rfl) (by kernel_rfl) rfl rfl (ltn hn rfl) (p_fld_b rfl rfl rfl) rfl ?_
    refine JD1_read 4 rfl (by kernel_rfl) (by kernel_rfl) (by kernel_rfl) rfl rfl (ltn hn rfl) (p_ld_b rfl rfl rfl rfl) rfl ?_
    refine JD1_read 5 rfl (by kernel_rfl) (by kernel_rfl) (by kernel_rfl) rfl rfl (ltn hn rfl) (pure_move rfl rfl) rfl ?_
    refine JD1_read 7 rfl (by kernel_rfl) (by kernel_rfl) (by kernel_rfl) rfl rfl (ltn hn rfl) (pure_move rfl rfl) rfl ?_
    refine JD1_go ?_
    refine JD_only 2 rfl (by kernel_rfl) rfl (@op_call _ _ _ _ _ _ [.tmp 19] _ _ _ _ _ (Times_spec n0 cs.length es hG hk3) rfl Tryz.func66 rfl rfl rfl (ltn hn rfl) ⟨rfl, rfl, trivial⟩ rfl rfl) rfl ?_
    refine JD_only 6 rfl (by kernel_rfl) rfl (@op_call _ _ _ _ _ _ [.tmp 22, .tmp 23] _ _ _ _ _ (At_spec (cfgL n0 cs.length) cs (by omega) (by omega) hce) rfl Tryz.func71 rfl rfl rfl (ltn hn rfl) ⟨rfl, rfl, ⟨rfl, rfl, trivial⟩⟩ rfl rfl) rfl ?_
    refine JD_only 8 rfl (by kernel_rfl) rfl (@op_call _ _ _ _ _ _ [.tmp 18, .tmp 20, .tmp 24, .tmp 25] _ _ _ _ _ (Flee_spec (cfgL n0 cs.length) ((cfgL n0 cs.length).map (mvL n0 es (cfgL n0 cs.length))) ((ints n0).map (ballG n0 es)) (ttI n0 cs.length es) (atL (cfgL n0 cs.length) cs) x hat.1 (by omega) (by omega) (by omega) (by rw [hbx]; omega) (by rw [hbx]; omega) (fun b hb => by rw [hbx] at hb; have := hbr b hb; omega)) rfl Tryz.func70 rfl rfl rfl (ltn hn rfl) ⟨rfl, rfl, ⟨rfl, rfl, ⟨rfl, rfl, ⟨rfl, rfl, trivial⟩⟩⟩⟩ rfl rfl) rfl ?_
    refine JD_still 9 rfl (by kernel_rfl) (by kernel_rfl) (by kernel_rfl) rfl rfl (ltn hn rfl) (pure_assign rfl rfl) ?_
    refine JD_still 10 rfl (by kernel_rfl) (by kernel_rfl) (by kernel_rfl) rfl rfl (ltn hn rfl) (pure_assign rfl rfl) ?_
    refine JD_done (by kernel_rfl) ?_
    refine J_ret ?_
    have e : rrS (n0 : Int) es cs x = (fleeF (gi (ttI n0 cs.length es) (atL (cfgL n0 cs.length) cs)) (ballG n0 es x), true) := by unfold rrS; rw [if_pos hM]; rfl
    exact Fin_two rfl (Le_sub C _ _ ⟨(eqv rfl (vi (by rw [e, hbx]))), (eqv rfl (vb (by rw [e]))), trivial⟩ trivial rfl rfl) rfl
theorem RobI_spec (n : Int) (es : List (Int × Int)) (cs : List Int) (x : Int) (hl : es.length < 2^40) (hll : cs.length < 2^40) : Spec Tryz.prog 35 [Gr n es, L cs, I x] (.tup [I (rrS n es cs x).1, B (rrS n es cs x).2]) [] := by
  refine Spec.intro (c := _) Tryz.func35 rfl (Nat.le_of_ble_eq_true rfl) (fun C hC hfx => ?_)
  have hn : C.n = 45 := hC
  refine (show J _ _ _ _ (⟨[(0, Gr n es), (1, L cs), (2, I x)], []⟩ : AS) from ?_)
  refine J_seq ?_
  refine J_region ?_
  refine jl_o rfl (op_box_agg rfl rfl (ltn hn rfl) rfl rfl rfl) ?_
  refine jl rfl rfl (ltn hn rfl) (pure_assign rfl rfl) ?_
  refine jl rfl rfl (ltn hn rfl) (pure_assign rfl rfl) ?_
  refine JL_nil ?_
  refine J_seq ?_
  refine J_seq ?_
  refine J_region ?_
  refine jl rfl rfl (ltn hn rfl) (p_ld_ba rfl rfl rfl (Nat.le_of_ble_eq_true rfl) rfl) ?_
  refine jl rfl rfl (ltn hn rfl) (pure_move rfl rfl) ?_
  refine jl_o rfl (@op_call _ _ _ _ _ _ [.tmp 9, .tmp 10] _ _ _ _ _ (AreCops_spec _ _ _ (by omega) (by omega)) rfl Tryz.func72 rfl rfl rfl (ltn hn rfl) ⟨rfl, rfl, ⟨rfl, rfl, trivial⟩⟩ rfl rfl) ?_
  refine jl rfl rfl (ltn hn rfl) (pure_not_b rfl rfl) ?_
  refine jl rfl rfl (ltn hn rfl) (pure_move rfl rfl) ?_
  refine jl_split_b rfl rfl rfl (fun h1 => ?_) (fun h1 => ?_)
  ·
    refine jl_s rfl rfl (ltn hn rfl) ?_
    refine jl_s rfl rfl (ltn hn rfl) ?_
    refine jl_s rfl rfl (ltn hn rfl) ?_
    refine jl_s rfl rfl (ltn hn rfl) ?_
    refine jl_s rfl rfl (ltn hn rfl) ?_
    refine jl rfl rfl (ltn hn rfl) (pure_pick_t rfl rfl rfl) ?_
    refine jl rfl rfl (ltn hn rfl) (pure_move rfl rfl) ?_
    refine jl_s rfl rfl (ltn hn rfl) ?_
    refine jl_s rfl rfl (ltn hn rfl) ?_
    refine jl_s rfl rfl (ltn hn rfl) ?_
    refine jl rfl rfl (ltn hn rfl) (pure_pick_t rfl rfl rfl) ?_
    refine JL_nil ?_
    refine J_cond_t rfl ?_
    refine J_seq ?_
    refine J_region ?_
    refine jl rfl rfl (ltn hn rfl) (pure_assign rfl rfl) ?_
    refine jl rfl rfl (ltn hn rfl) (pure_assign rfl rfl) ?_
    refine JL_nil ?_
    refine J_ret ?_
    have e := rrS_no (n := n) (es := es) (cs := cs) (x := x) (by rw [meets_impl]; rw [nb_t h1]; rfl)
    exact Fin_two rfl (Le_sub C _ _ ⟨(eqv rfl (vi (by rw [e]))), (eqv rfl (vb (by rw [e]))), trivial⟩ trivial rfl rfl) rfl
  ·
    refine jl rfl rfl (ltn hn rfl) (p_ld_ba rfl rfl rfl (Nat.le_of_ble_eq_true rfl) rfl) ?_
    refine jl rfl rfl (ltn hn rfl) (pure_move rfl rfl) ?_
    refine jl_o rfl (@op_lit1 _ _ _ _ _ cI _ _ _ _ _ _ _ SlT.slk rfl rfl (ltn hn rfl) rfl rfl rfl rfl rfl) ?_
    refine jl_o rfl (op_callE (callsB (HasNodes_spec n es [x] (by omega) (by simp)) (enters_fn (args := [.tmp 14, .tmp 16]) rfl Tryz.func73 rfl rfl (evA_c rfl (evA_c rfl evA_n))) (.cons (.ro _ rfl) (.cons (.own _ _ _ _ _ rfl rfl rfl) .nil)) rfl trivial) rfl (ltn hn rfl) rfl rfl) ?_
    refine jl rfl rfl (ltn hn rfl) (pure_not_b rfl rfl) ?_
    refine jl rfl rfl (ltn hn rfl) (pure_pick_f rfl rfl rfl) ?_
    refine jl rfl rfl (ltn hn rfl) (pure_move rfl rfl) ?_
    refine jl_split_b rfl rfl rfl (fun h2 => ?_) (fun h2 => ?_)
    ·
      refine jl_s rfl rfl (ltn hn rfl) ?_
      refine jl_s rfl rfl (ltn hn rfl) ?_
      refine jl_s rfl rfl (ltn hn rfl) ?_
      refine jl rfl rfl (ltn hn rfl) (pure_pick_t rfl rfl rfl) ?_
      refine JL_nil ?_
      refine J_cond_t rfl ?_
      refine J_seq ?_
      refine J_region ?_
      refine jl rfl rfl (ltn hn rfl) (pure_assign rfl rfl) ?_
      refine jl rfl rfl (ltn hn rfl) (pure_assign rfl rfl) ?_
      refine JL_nil ?_
      refine J_ret ?_
      have e := rrS_no (n := n) (es := es) (cs := cs) (x := x) (by rw [meets_impl]; rw [nb_f h1, nb_t h2]; rfl)
      exact Fin_two rfl (Le_sub C _ _ ⟨(eqv rfl (vi (by rw [e]))), (eqv rfl (vb (by rw [e]))), trivial⟩ trivial rfl rfl) rfl
    ·
      refine jl rfl rfl (ltn hn rfl) (pure_move rfl rfl) ?_
      refine jl rfl rfl (ltn hn rfl) (pure_move rfl rfl) ?_
      refine jl_o rfl (@op_call _ _ _ _ _ _ [.tmp 21, .tmp 22] _ _ _ _ _ (Contains_spec _ _ (by omega)) rfl Tryz.func74 rfl rfl rfl (ltn hn rfl) ⟨rfl, rfl, ⟨rfl, rfl, trivial⟩⟩ rfl rfl) ?_
      refine jl rfl rfl (ltn hn rfl) (pure_pick_f rfl rfl rfl) ?_
      refine JL_nil ?_
      refine J_cond rfl (fun h3 => ?_) (fun h3 => ?_)
      ·
        refine J_seq ?_
        refine J_region ?_
        refine jl rfl rfl (ltn hn rfl) (pure_assign rfl rfl) ?_
        refine jl rfl rfl (ltn hn rfl) (pure_assign rfl rfl) ?_
        refine JL_nil ?_
        refine J_ret ?_
        have e := rrS_no (n := n) (es := es) (cs := cs) (x := x) (by rw [meets_impl]; rw [h3]; simp)
        exact Fin_two rfl (Le_sub C _ _ ⟨(eqv rfl (vi (by rw [e]))), (eqv rfl (vb (by rw [e]))), trivial⟩ trivial rfl rfl) rfl
      ·
        have hM : meetsG n es cs x = true := by rw [meets_impl, nb_f h1, nb_f h2, h3]; rfl
        obtain ⟨hF, hC2, hxr, hcx⟩ := meets_parts hM
        have hfb := field_bd hF
        obtain ⟨n0, rfl⟩ : ∃ n0 : Nat, n = n0 := ⟨n.toNat, by omega⟩
        have hG := fgood hF
        have hn8 := good_n hG
        have hk3 : cs.length ≤ 3 := by omega
        have hmem := cops_cfg hC2
        have hat := at_mem hmem
        have hok := ttI_ok (es := es) hn8 hk3
        have hcl := cfg_len3 hn8 hk3
        have hcm := cfg_mem n0 cs.length
        have hce : ∀ y ∈ (cfgL n0 cs.length), y.length < 2 ^ 40 := fun y hy => by have := (hcm y hy).1; omega
        have hrow : (gi (ttI n0 cs.length es) (atL (cfgL n0 cs.length) cs)).length = n0 := hok.row _ (gi_memI (by rw [hok.len]; omega))
        have hbx : gi ((ints n0).map (ballG n0 es)) x = ballG n0 es x := gi_ints (by omega)
        have hbr : ∀ b ∈ ballG n0 es x, 0 ≤ b ∧ b < n0 := fun b hb => ((mem_ball (by omega)).1 hb).1
        have hself : x ∈ ballG n0 es x := (mem_ball (by omega)).2 ⟨by omega, .inr rfl⟩
        have hlen := ball_len hn8 es x
        have hpos := List.length_pos_of_mem hself
        have hoL := hok.len
        have hblL : ((ints n0).map (ballG n0 es)).length = n0 := by rw [List.length_map, ints_length]
        refine J_skip ?_
        refine J_seq ?_
        refine J_region ?_
        refine jl rfl rfl (ltn hn rfl) (p_ld_ba rfl rfl rfl (Nat.le_of_ble_eq_true rfl) rfl) ?_
        refine jl_o rfl (@op_call _ _ _ _ _ _ [.tmp 25] _ _ _ _ _ (NetOf_spec n0 es (by omega) hn8 hG) rfl Tryz.func53 rfl rfl rfl (ltn hn rfl) ⟨rfl, rfl, trivial⟩ rfl rfl) ?_
        refine jl rfl rfl (ltn hn rfl) (pure_move rfl rfl) ?_
        refine jl rfl rfl (ltn hn rfl) (p_len_m rfl rfl) ?_
        refine jl_o rfl (@op_call _ _ _ _ _ _ [.tmp 26, .tmp 28] _ _ _ _ _ (CopGame_spec n0 cs.length es hG (by omega) hk3) rfl Tryz.func68 rfl rfl rfl (ltn hn rfl) ⟨rfl, rfl, ⟨rfl, rfl, trivial⟩⟩ rfl rfl) ?_
        refine jl rfl rfl (ltn hn rfl) (pure_assign rfl rfl) ?_
        refine JL_nil ?_
        refine J_seq ?_
        refine J_draw follows_mixed (by kernel_rfl) ?_
        refine jq rfl rfl (ltn hn rfl) (pure_move rfl rfl) ?_
        refine jq rfl rfl (ltn hn rfl) (pure_nilCheck_ref rfl rfl) ?_
        refine jq rfl rfl (ltn hn rfl) (p_fld rfl rfl) ?_
        refine jq rfl rfl (ltn hn rfl) (p_ld_a rfl rfl (Nat.le_of_ble_eq_true rfl) rfl) ?_
        refine jq rfl rfl (ltn hn rfl) (pure_move rfl rfl) ?_
        refine jq rfl rfl (ltn hn rfl) (pure_nilCheck_ref rfl rfl) ?_
        refine jq rfl rfl (ltn hn rfl) (p_fld rfl rfl) ?_
        refine jq rfl rfl (ltn hn rfl) (p_ld rfl rfl rfl) ?_
        refine jq rfl rfl (ltn hn rfl) (pure_move rfl rfl) ?_
        refine jq rfl rfl (ltn hn rfl) (pure_move rfl rfl) ?_
        refine JQ_call (args := [.tmp 38, .tmp 39]) rfl (Place_spec (netW n0 es) (cfgL n0 cs.length) (LL ((cfgL n0 cs.length).map (mvL n0 es (cfgL n0 cs.length)))) (LL (ttI n0 cs.length es)) cs (by omega) hce (cfg_str n0 cs.length) hmem) rfl Tryz.func76 rfl rfl rfl (ltn hn rfl) ⟨rfl, rfl, ⟨rfl, rfl, trivial⟩⟩ ?_
        refine jq rfl rfl (ltn hn rfl) (p_idx rfl rfl rfl (by omega) (mget (by omega))) ?_
        refine jq rfl rfl (ltn hn rfl) (p_ld rfl rfl rfl) ?_
        refine jq rfl rfl (ltn hn rfl) (pure_move rfl rfl) ?_
        refine JQ_call (args := [.tmp 33, .tmp 42, .tmp 43]) rfl (RobMove_spec (netW n0 es) (gi (ttI n0 cs.length es) (atL (cfgL n0 cs.length) cs)) x (by rw [netW_len]; omega) (netW_bd hG) (by rw [netW_len]; omega) (fun b hb => by rw [set_ball hG (by omega)] at hb; have := hbr b hb; omega)) rfl Tryz.func75 rfl rfl rfl (ltn hn rfl) ⟨rfl, rfl, ⟨rfl, rfl, ⟨rfl, rfl, trivial⟩⟩⟩ ?_
        refine jq rfl rfl (ltn hn rfl) (pure_assign rfl rfl) ?_
        refine jq rfl rfl (ltn hn rfl) (pure_assign rfl rfl) ?_
        refine JQ_nil ?_
        refine J_ret ?_
        have e : rrS (n0 : Int) es cs x = (fleeF (gi (ttI n0 cs.length es) (atL (cfgL n0 cs.length) cs)) (ballG n0 es x), true) := by unfold rrS; rw [if_pos hM]; rfl
        exact Fin_two rfl (Le_sub C _ _ ⟨(eqv rfl (vi (by rw [e, set_ball hG (by omega)]))), (eqv rfl (vb (by rw [e]))), trivial⟩ trivial rfl rfl) rfl
theorem LawRob_spec (n : Int) (es : List (Int × Int)) (cs : List Int) (x : Int) : Spec Tryz.prog 7 [Gr n es, L cs, I x] (B true) [] := by
  refine Spec.intro (c := _) Tryz.func7 rfl (Nat.le_of_ble_eq_true rfl) (fun C hC hfx => ?_)
  have hn : C.n = 60 := hC
  refine (show J _ _ _ _ (⟨[(0, Gr n es), (1, L cs), (2, I x)], []⟩ : AS) from ?_)
  refine J_seq ?_
  refine J_region ?_
  refine jl_o rfl (op_box_agg rfl rfl (ltn hn rfl) rfl rfl rfl) ?_
  refine jl rfl rfl (ltn hn rfl) (pure_assign rfl rfl) ?_
  refine JL_nil ?_
  refine J_seq ?_
  refine J_seq ?_
  refine J_region ?_
  refine jl rfl rfl (ltn hn rfl) (pure_move rfl rfl) ?_
  refine jl rfl rfl (ltn hn rfl) (p_len_m rfl rfl) ?_
  refine jl rfl rfl (ltn hn rfl) (pure_gtr rfl rfl rfl) ?_
  refine JL_nil ?_
  refine J_cond_p rfl (fun h1 => ?_) (fun h1 => ?_)
  ·
    refine J_seq ?_
    refine J_region ?_
    refine jl rfl rfl (ltn hn rfl) (pure_assign rfl rfl) ?_
    refine JL_nil ?_
    refine J_ret ?_
    exact Fin_one rfl (Le_one rfl (vb (by first | rfl | (exfalso; simp_all))) rfl)
  ·
    refine J_skip ?_
    refine J_seq ?_
    refine J_region ?_
    refine jl rfl rfl (ltn hn rfl) (pure_assign rfl rfl) ?_
    refine JL_nil ?_
    refine J_seq ?_
    refine J_region ?_
    refine jl rfl rfl (ltn hn rfl) (p_ld_ba rfl rfl rfl (Nat.le_of_ble_eq_true rfl) rfl) ?_
    refine jl rfl rfl (ltn hn rfl) (pure_move rfl rfl) ?_
    refine jl_o rfl (@op_call _ _ _ _ _ _ [.tmp 17, .tmp 18] _ _ _ _ _ (SzG_spec _ _ _ (by omega)) rfl Tryz.func13 rfl rfl rfl (ltn hn rfl) ⟨rfl, rfl, ⟨rfl, rfl, trivial⟩⟩ rfl rfl) ?_
    refine jl rfl rfl (ltn hn rfl) (pure_assign rfl rfl) ?_
    refine JL_nil ?_
    refine J_seq ?_
    refine J_seq ?_
    refine J_region ?_
    refine jl rfl rfl (ltn hn rfl) (pure_move rfl rfl) ?_
    refine jl rfl rfl (ltn hn rfl) (pure_lss rfl rfl rfl) ?_
    refine JL_nil ?_
    refine J_cond_p rfl (fun h2 => ?_) (fun h2 => ?_)
    ·
      refine J_seq ?_
      refine J_region ?_
      refine jl rfl rfl (ltn hn rfl) (pure_assign rfl rfl) ?_
      refine JL_nil ?_
      refine J_ret ?_
      exact Fin_one rfl (Le_one rfl (vb (by first | rfl | (exfalso; simp_all))) rfl)
    ·
      have hle : es.length < 2 ^ 40 := by have h0 := h2; unfold szE at h0; split at h0 <;> omega
      have hlc : cs.length < 2 ^ 40 := by omega
      refine J_skip ?_
      refine J_seq ?_
      refine J_region ?_
      refine jl rfl rfl (ltn hn rfl) (p_ld_ba rfl rfl rfl (Nat.le_of_ble_eq_true rfl) rfl) ?_
      refine jl_o rfl (@op_call _ _ _ _ _ _ [.tmp 23] _ _ _ _ _ (ToG_spec _ _ (by omega)) rfl Tryz.func16 rfl rfl rfl (ltn hn rfl) ⟨rfl, rfl, trivial⟩ rfl rfl) ?_
      refine jl rfl rfl (ltn hn rfl) (pure_move rfl rfl) ?_
      refine jl_o rfl (@op_call _ _ _ _ _ _ [.tmp 25] _ _ _ _ _ (ToL_spec _ (by omega)) rfl Tryz.func34 rfl rfl rfl (ltn hn rfl) ⟨rfl, rfl, trivial⟩ rfl rfl) ?_
      refine jl rfl rfl (ltn hn rfl) (pure_move rfl rfl) ?_
      refine jl_o rfl (@op_call _ _ _ _ _ _ [.tmp 24, .tmp 26, .tmp 27] _ _ _ _ _ (RobS_spec _ _ _ _ (by omega) (by omega)) rfl Tryz.func33 rfl rfl rfl (ltn hn rfl) ⟨rfl, rfl, ⟨rfl, rfl, ⟨rfl, rfl, trivial⟩⟩⟩ rfl rfl) ?_
      refine jl rfl rfl (ltn hn rfl) (pure_move rfl rfl) ?_
      refine jl rfl rfl (ltn hn rfl) (p_extract rfl rfl rfl) ?_
      refine jl rfl rfl (ltn hn rfl) (p_extract rfl rfl rfl) ?_
      refine jl rfl rfl (ltn hn rfl) (pure_assign rfl rfl) ?_
      refine jl rfl rfl (ltn hn rfl) (pure_assign rfl rfl) ?_
      refine JL_nil ?_
      refine J_seq ?_
      refine J_region ?_
      refine jl rfl rfl (ltn hn rfl) (p_ld_ba rfl rfl rfl (Nat.le_of_ble_eq_true rfl) rfl) ?_
      refine jl_o rfl (@op_call _ _ _ _ _ _ [.tmp 31] _ _ _ _ _ (ToG_spec _ _ (by omega)) rfl Tryz.func16 rfl rfl rfl (ltn hn rfl) ⟨rfl, rfl, trivial⟩ rfl rfl) ?_
      refine jl_o rfl (@op_alloc _ _ _ _ _ _ _ rfl ZrT.out rfl rfl (ltn hn rfl) rfl) ?_
      refine jl_o rfl (op_store_box_agg rfl rfl (by exact SzT.out) rfl rfl (by exact Nat.le_of_ble_eq_true rfl) rfl rfl) ?_
      refine JL_nil ?_
      refine J_seq ?_
      refine J_region ?_
      refine jl rfl rfl (ltn hn rfl) (pure_move rfl rfl) ?_
      refine jl_o rfl (@op_call _ _ _ _ _ _ [.tmp 33] _ _ _ _ _ (ToL_spec _ (by omega)) rfl Tryz.func34 rfl rfl rfl (ltn hn rfl) ⟨rfl, rfl, trivial⟩ rfl rfl) ?_
      refine jl rfl rfl (ltn hn rfl) (pure_assign rfl rfl) ?_
      refine JL_nil ?_
      refine J_seq ?_
      refine J_region ?_
      refine jl rfl rfl (ltn hn rfl) (p_ld_ba rfl rfl rfl (Nat.le_of_ble_eq_true rfl) rfl) ?_
      refine jl rfl rfl (ltn hn rfl) (pure_move rfl rfl) ?_
      refine jl rfl rfl (ltn hn rfl) (pure_move rfl rfl) ?_
      refine jl_o rfl (@op_call _ _ _ _ _ _ [.tmp 36, .tmp 37, .tmp 38] _ _ _ _ _ (RobI_spec _ _ _ _ (by omega) (by omega)) rfl Tryz.func35 rfl rfl rfl (ltn hn rfl) ⟨rfl, rfl, ⟨rfl, rfl, ⟨rfl, rfl, trivial⟩⟩⟩ rfl rfl) ?_
      refine jl rfl rfl (ltn hn rfl) (pure_move rfl rfl) ?_
      refine jl rfl rfl (ltn hn rfl) (p_extract rfl rfl rfl) ?_
      refine jl rfl rfl (ltn hn rfl) (p_extract rfl rfl rfl) ?_
      refine jl rfl rfl (ltn hn rfl) (pure_assign rfl rfl) ?_
      refine jl rfl rfl (ltn hn rfl) (pure_assign rfl rfl) ?_
      refine JL_nil ?_
      refine J_seq ?_
      refine J_seq ?_
      refine J_region ?_
      refine jl rfl rfl (ltn hn rfl) (pure_move rfl rfl) ?_
      refine jl rfl rfl (ltn hn rfl) (pure_move rfl rfl) ?_
      refine jl rfl rfl (ltn hn rfl) (pure_neq rfl rfl rfl) ?_
      refine jl rfl rfl (ltn hn rfl) (pure_move rfl rfl) ?_
      refine jl_split rfl rfl rfl (fun h3 => ?_) (fun h3 => ?_)
      ·
        refine jl_s rfl rfl (ltn hn rfl) ?_
        refine jl_s rfl rfl (ltn hn rfl) ?_
        refine jl_s rfl rfl (ltn hn rfl) ?_
        refine jl rfl rfl (ltn hn rfl) (pure_pick_t rfl rfl rfl) ?_
        refine JL_nil ?_
        refine J_cond_t rfl ?_
        refine J_seq ?_
        refine J_region ?_
        refine jl rfl rfl (ltn hn rfl) (pure_assign rfl rfl) ?_
        refine JL_nil ?_
        refine J_ret ?_
        exact Fin_one rfl (Le_one rfl (vb (by first | rfl | (exfalso; simp_all))) rfl)
      ·
        refine jl rfl rfl (ltn hn rfl) (pure_move rfl rfl) ?_
        refine jl rfl rfl (ltn hn rfl) (pure_move rfl rfl) ?_
        refine jl rfl rfl (ltn hn rfl) (p_neq_b rfl rfl rfl) ?_
        refine jl rfl rfl (ltn hn rfl) (pure_pick_f rfl rfl rfl) ?_
        refine JL_nil ?_
        refine J_cond rfl (fun h4 => ?_) (fun h4 => ?_)
        ·
          refine J_seq ?_
          refine J_region ?_
          refine jl rfl rfl (ltn hn rfl) (pure_assign rfl rfl) ?_
          refine JL_nil ?_
          refine J_ret ?_
          exact Fin_one rfl (Le_one rfl (vb (by first | rfl | (exfalso; simp_all))) rfl)
        ·
          refine J_skip ?_
          refine J_seq ?_
          refine J_seq ?_
          refine J_mixed [52, 53] follows_mixed (by kernel_rfl) ?_
          refine JD1_read 0 rfl (by kernel_rfl) (by kernel_rfl) (by kernel_rfl) rfl rfl (ltn hn rfl) (p_ld_ba rfl rfl rfl (Nat.le_of_ble_eq_true rfl) rfl) rfl ?_
          refine JD1_read 1 rfl (by kernel_rfl) (by kernel_rfl) (by kernel_rfl) rfl rfl (ltn hn rfl) (p_ld_ba rfl rfl rfl (Nat.le_of_ble_eq_true rfl) rfl) rfl ?_
          refine JD1_go ?_
          refine JD_only 2 rfl (by kernel_rfl) rfl (@op_call _ _ _ _ _ _ [.tmp 51] _ _ _ _ _ (ToG_spec _ _ (by omega)) rfl Tryz.func16 rfl rfl rfl (ltn hn rfl) ⟨rfl, rfl, trivial⟩ rfl rfl) rfl ?_
          refine JD_only 3 rfl (by kernel_rfl) rfl (@op_call _ _ _ _ _ _ [.tmp 50, .tmp 52] _ _ _ _ _ (EqG_spec _ _ _ _ (by omega) (by omega)) rfl Tryz.func20 rfl rfl rfl (ltn hn rfl) ⟨rfl, rfl, ⟨rfl, rfl, trivial⟩⟩ rfl rfl) rfl ?_
          refine JD_still 4 rfl (by kernel_rfl) (by kernel_rfl) (by kernel_rfl) rfl rfl (ltn hn rfl) (pure_not_b rfl rfl) ?_
          refine JD_done (by kernel_rfl) ?_
          refine J_cond rfl (fun h5 => ?_) (fun h5 => ?_)
          ·
            refine J_seq ?_
            refine J_region ?_
            refine jl rfl rfl (ltn hn rfl) (pure_assign rfl rfl) ?_
            refine JL_nil ?_
            refine J_ret ?_
            exact Fin_one rfl (Le_one rfl (vb (by first | rfl | (exfalso; simp_all))) rfl)
          ·
            refine J_skip ?_
            refine J_seq ?_
            refine J_seq ?_
            refine J_region ?_
            refine jl rfl rfl (ltn hn rfl) (pure_move rfl rfl) ?_
            refine jl rfl rfl (ltn hn rfl) (pure_move rfl rfl) ?_
            refine jl_o rfl (@op_call _ _ _ _ _ _ [.tmp 56] _ _ _ _ _ (ToL_spec _ (by omega)) rfl Tryz.func34 rfl rfl rfl (ltn hn rfl) ⟨rfl, rfl, trivial⟩ rfl rfl) ?_
            refine jl_o rfl (@op_call _ _ _ _ _ _ [.tmp 55, .tmp 57] _ _ _ _ _ (EqL_spec _ _ (by omega) (by omega)) rfl Tryz.func26 rfl rfl rfl (ltn hn rfl) ⟨rfl, rfl, ⟨rfl, rfl, trivial⟩⟩ rfl rfl) ?_
            refine jl rfl rfl (ltn hn rfl) (pure_not_b rfl rfl) ?_
            refine JL_nil ?_
            refine J_cond rfl (fun h6 => ?_) (fun h6 => ?_)
            ·
              refine J_seq ?_
              refine J_region ?_
              refine jl rfl rfl (ltn hn rfl) (pure_assign rfl rfl) ?_
              refine JL_nil ?_
              refine J_ret ?_
              exact Fin_one rfl (Le_one rfl (vb (by first | rfl | (exfalso; simp_all))) rfl)
            ·
              refine J_skip ?_
              refine J_seq ?_
              refine J_region ?_
              refine jl rfl rfl (ltn hn rfl) (pure_assign rfl rfl) ?_
              refine JL_nil ?_
              refine J_ret ?_
              exact Fin_one rfl (Le_one rfl (vb (by first | rfl | (exfalso; simp_all))) rfl)
end Go.Proofs.YtmiijpobhajfmaaGreat.J
