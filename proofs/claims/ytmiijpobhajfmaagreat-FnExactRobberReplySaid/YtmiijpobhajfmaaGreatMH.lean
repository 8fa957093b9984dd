/- Parts of a small logic over the program, and walks in it. No statement of the seat is proved in this text. -/
import Derived.Test.YtmiijpobhajfmaaGreatMG
namespace Go.Proofs.YtmiijpobhajfmaaGreat.J
open Go Go.RowKit
set_option linter.unusedVariables false
set_option linter.unusedSimpArgs false

abbrev Net (w : List Int) : AV := .agg [L w]
def cmpI (a b : Int) : Int := if a < b then -1 else if b < a then 1 else 0
/-- The comparison of lists. -/
def cmpL : List Int → List Int → Int
  | [], [] => 0
  | [], _ :: _ => -1
  | _ :: _, [] => 1
  | a :: r, b :: t => if cmpI a b = 0 then cmpL r t else cmpI a b
theorem cmpL_take : ∀ (i : Nat) {a b : List Int}, a.take i = b.take i → i ≤ a.length → i ≤ b.length → cmpL a b = cmpL (a.drop i) (b.drop i)
  | 0, _, _, _, _, _ => rfl
  | i + 1, x :: a, y :: b, h, h1, h2 => by
    simp only [List.take_succ_cons, List.cons.injEq] at h
    have e : cmpI x x = 0 := by unfold cmpI; simp
    simp only [List.drop_succ_cons, cmpL, h.1]
    rw [if_pos (by unfold cmpI; simp)]
    exact cmpL_take i h.2 (by simpa using h1) (by simpa using h2)
  | i + 1, [], _, _, h1, _ => by simp at h1
  | i + 1, _ :: _, [], _, _, h2 => by simp at h2
def bit1 (x : Int) : Int := IntKind.wrap .i64 (1 * 2 ^ min x.toNat (IntKind.bits .i64))
def maskL (l : List Int) : Int := l.foldl (fun m x => Go.bits .or .i64 m (bit1 x)) 0
def closedW (w : List Int) (x : Int) : Int := Go.bits .or .i64 (gi w x) (bit1 x)
def aroundW (w : List Int) (set : Int) : Int := (ints w.length).foldl (fun out i => if bitT set i then Go.bits .or .i64 out (gi w i) else out) set
def unsafeW (w : List Int) (u : Int) (c : List Int) : Int := Go.bits .andNot .i64 (aroundW w (Go.bits .andNot .i64 u (maskL c))) (maskL c)

theorem Within_spec (x a b : Int) : Spec Tryz.prog 83 [I x, I a, I b] (B (decide (a ≤ x) && decide (x ≤ b))) [] := by
  refine Spec.intro (c := _) Tryz.func83 rfl (Nat.le_of_ble_eq_true rfl) (fun C hC hfx => ?_)
  have hn : C.n = 15 := hC
  refine (show J _ _ _ _ (⟨[(0, I x), (1, I a), (2, I b)], []⟩ : AS) from ?_)
  refine J_seq ?_
  refine J_region ?_
  refine jl rfl rfl (ltn hn rfl) (pure_assign rfl rfl) ?_
  refine JL_nil ?_
  refine J_seq ?_
  refine J_region ?_
  refine jl rfl rfl (ltn hn rfl) (pure_move rfl rfl) ?_
  refine jl rfl rfl (ltn hn rfl) (pure_move rfl rfl) ?_
  refine jl rfl rfl (ltn hn rfl) (pure_geq rfl rfl rfl) ?_
  refine jl rfl rfl (ltn hn rfl) (pure_move rfl rfl) ?_
  refine jl_split rfl rfl rfl (fun h1 => ?_) (fun h1 => ?_)
  ·
    refine jl rfl rfl (ltn hn rfl) (pure_move rfl rfl) ?_
    refine jl rfl rfl (ltn hn rfl) (pure_move rfl rfl) ?_
    refine jl rfl rfl (ltn hn rfl) (pure_leq rfl rfl rfl) ?_
    refine jl rfl rfl (ltn hn rfl) (pure_pick_t rfl rfl rfl) ?_
    refine jl rfl rfl (ltn hn rfl) (pure_assign rfl rfl) ?_
    refine JL_nil ?_
    refine J_ret ?_
    exact Fin_one rfl (Le_one rfl (vb (by simp; omega)) rfl)
  ·
    refine jl_s rfl rfl (ltn hn rfl) ?_
    refine jl_s rfl rfl (ltn hn rfl) ?_
    refine jl_s rfl rfl (ltn hn rfl) ?_
    refine jl rfl rfl (ltn hn rfl) (pure_pick_f rfl rfl rfl) ?_
    refine jl rfl rfl (ltn hn rfl) (pure_assign rfl rfl) ?_
    refine JL_nil ?_
    refine J_ret ?_
    exact Fin_one rfl (Le_one rfl (vb (by simp; omega)) rfl)
theorem NaN_spec (x : Int) : Spec Tryz.prog 147 [I x] (B false) [] := by
  refine Spec.intro (c := _) Tryz.func147 rfl (Nat.le_of_ble_eq_true rfl) (fun C hC hfx => ?_)
  have hn : C.n = 6 := hC
  refine (show J _ _ _ _ (⟨[(0, I x)], []⟩ : AS) from ?_)
  refine J_seq ?_
  refine J_region ?_
  refine jl rfl rfl (ltn hn rfl) (pure_assign rfl rfl) ?_
  refine JL_nil ?_
  refine J_seq ?_
  refine J_region ?_
  refine jl rfl rfl (ltn hn rfl) (pure_move rfl rfl) ?_
  refine jl rfl rfl (ltn hn rfl) (pure_move rfl rfl) ?_
  refine jl rfl rfl (ltn hn rfl) (pure_neq rfl rfl rfl) ?_
  refine jl rfl rfl (ltn hn rfl) (pure_assign rfl rfl) ?_
  refine JL_nil ?_
  refine J_ret ?_
  exact Fin_one rfl (Le_one rfl (vb (by simp)) rfl)
theorem CmpI_spec (a b : Int) : Spec Tryz.prog 139 [I a, I b] (I (cmpI a b)) [] := by
  refine Spec.intro (c := _) Tryz.func139 rfl (Nat.le_of_ble_eq_true rfl) (fun C hC hfx => ?_)
  have hn : C.n = 20 := hC
  refine (show J _ _ _ _ (⟨[(0, I a), (1, I b)], []⟩ : AS) from ?_)
  refine J_seq ?_
  refine J_region ?_
  refine jl rfl rfl (ltn hn rfl) (pure_assign rfl rfl) ?_
  refine JL_nil ?_
  refine J_seq ?_
  refine J_region ?_
  refine jl rfl rfl (ltn hn rfl) (pure_move rfl rfl) ?_
  refine jl_o rfl (@op_call _ _ _ _ _ _ [.tmp 7] _ _ _ _ _ (NaN_spec _) rfl Tryz.func147 rfl rfl rfl (ltn hn rfl) ⟨rfl, rfl, trivial⟩ rfl rfl) ?_
  refine jl rfl rfl (ltn hn rfl) (pure_assign rfl rfl) ?_
  refine JL_nil ?_
  refine J_seq ?_
  refine J_region ?_
  refine jl rfl rfl (ltn hn rfl) (pure_move rfl rfl) ?_
  refine jl_o rfl (@op_call _ _ _ _ _ _ [.tmp 9] _ _ _ _ _ (NaN_spec _) rfl Tryz.func147 rfl rfl rfl (ltn hn rfl) ⟨rfl, rfl, trivial⟩ rfl rfl) ?_
  refine jl rfl rfl (ltn hn rfl) (pure_assign rfl rfl) ?_
  refine JL_nil ?_
  refine J_seq ?_
  refine J_seq ?_
  refine J_region ?_
  refine jl rfl rfl (ltn hn rfl) (pure_move rfl rfl) ?_
  refine JL_nil ?_
  refine J_cond_f rfl ?_
  refine J_skip ?_
  refine J_seq ?_
  refine J_seq ?_
  refine J_region ?_
  refine jl rfl rfl (ltn hn rfl) (pure_move rfl rfl) ?_
  refine JL_nil ?_
  refine J_cond_f rfl ?_
  refine J_skip ?_
  refine J_seq ?_
  refine J_seq ?_
  refine J_region ?_
  refine jl rfl rfl (ltn hn rfl) (pure_move rfl rfl) ?_
  refine jl rfl rfl (ltn hn rfl) (pure_move rfl rfl) ?_
  refine jl rfl rfl (ltn hn rfl) (pure_lss rfl rfl rfl) ?_
  refine JL_nil ?_
  refine J_cond_p rfl (fun h1 => ?_) (fun h1 => ?_)
  ·
    refine J_seq ?_
    refine J_region ?_
    refine jl rfl rfl (ltn hn rfl) (pure_assign rfl rfl) ?_
    refine JL_nil ?_
    refine J_ret ?_
    exact Fin_one rfl (Le_one rfl (vi (by unfold cmpI; split <;> (try split) <;> first | rfl | omega | simp_all)) rfl)
  ·
    refine J_skip ?_
    refine J_seq ?_
    refine J_seq ?_
    refine J_region ?_
    refine jl rfl rfl (ltn hn rfl) (pure_move rfl rfl) ?_
    refine jl rfl rfl (ltn hn rfl) (pure_move rfl rfl) ?_
    refine jl rfl rfl (ltn hn rfl) (pure_gtr rfl rfl rfl) ?_
    refine JL_nil ?_
    refine J_cond_p rfl (fun h2 => ?_) (fun h2 => ?_)
    ·
      refine J_seq ?_
      refine J_region ?_
      refine jl rfl rfl (ltn hn rfl) (pure_assign rfl rfl) ?_
      refine JL_nil ?_
      refine J_ret ?_
      exact Fin_one rfl (Le_one rfl (vi (by unfold cmpI; split <;> (try split) <;> first | rfl | omega | simp_all)) rfl)
    ·
      refine J_skip ?_
      refine J_seq ?_
      refine J_region ?_
      refine jl rfl rfl (ltn hn rfl) (pure_assign rfl rfl) ?_
      refine JL_nil ?_
      refine J_ret ?_
      exact Fin_one rfl (Le_one rfl (vi (by unfold cmpI; split <;> (try split) <;> first | rfl | omega | simp_all)) rfl)
theorem CmpL_spec (a b : List Int) (ha : a.length < 2^40) (hb : b.length < 2^40) : Spec Tryz.prog 122 [L a, L b] (I (cmpL a b)) [] := by
  refine Spec.intro (c := _) Tryz.func122 rfl (Nat.le_of_ble_eq_true rfl) (fun C hC hfx => ?_)
  have hn : C.n = 36 := hC
  refine (show J _ _ _ _ (⟨[(0, L a), (1, L b)], []⟩ : AS) from ?_)
  refine J_seq ?_
  refine J_region ?_
  refine jl rfl rfl (ltn hn rfl) (pure_assign rfl rfl) ?_
  refine JL_nil ?_
  refine J_seq ?_
  refine J_seq ?_
  refine J_region ?_
  refine jl rfl rfl (ltn hn rfl) (pure_move rfl rfl) ?_
  refine jl rfl rfl (ltn hn rfl) (p_len_m rfl rfl) ?_
  refine jl rfl rfl (ltn hn rfl) (pure_move rfl rfl) ?_
  refine JL_nil ?_
  refine J_block ?_
  refine J_loop (X := Nat) (fun i => ⟨[(0, L a), (1, L b), (9, L a), (10, I (a.length : Int)), (11, I (i : Nat))], []⟩) (fun i => i ≤ a.length ∧ i ≤ b.length ∧ a.take i = b.take i) (fun i => a.length - i) 0 ?_ ?_ ?_
  · exact ⟨by omega, by omega, by simp⟩
  ·
    refine Le_sub C _ _ ⟨rfl, ⟨rfl, ⟨rfl, ⟨rfl, ⟨rfl, trivial⟩⟩⟩⟩⟩ trivial rfl rfl
  ·
    intro i hR
    obtain ⟨hi, hi2, hc⟩ := hR
    refine J_seq ?_
    refine J_region ?_
    refine jl rfl rfl (ltn hn rfl) (pure_lss rfl rfl rfl) ?_
    refine JL_nil ?_
    refine J_seq ?_
    refine J_cond_p rfl (fun h1 => ?_) (fun h1 => ?_)
    ·
      refine J_skip ?_
      refine J_seq ?_
      refine J_block ?_
      refine J_seq ?_
      refine J_region ?_
      refine jl rfl rfl (ltn hn rfl) (pure_move rfl rfl) ?_
      refine jl rfl rfl (ltn hn rfl) (p_idx rfl rfl rfl (by omega) (mget (by omega))) ?_
      refine jl rfl rfl (ltn hn rfl) (p_ld rfl rfl rfl) ?_
      refine jl rfl rfl (ltn hn rfl) (pure_assign rfl rfl) ?_
      refine jl rfl rfl (ltn hn rfl) (pure_assign rfl rfl) ?_
      refine JL_nil ?_
      refine J_seq ?_
      refine J_seq ?_
      refine J_region ?_
      refine jl rfl rfl (ltn hn rfl) (pure_move rfl rfl) ?_
      refine jl rfl rfl (ltn hn rfl) (pure_move rfl rfl) ?_
      refine jl rfl rfl (ltn hn rfl) (p_len_m rfl rfl) ?_
      refine jl rfl rfl (ltn hn rfl) (pure_geq rfl rfl rfl) ?_
      refine JL_nil ?_
      refine J_cond_p rfl (fun h2 => ?_) (fun h2 => ?_)
      ·
        refine J_seq ?_
        refine J_region ?_
        refine jl rfl rfl (ltn hn rfl) (pure_assign rfl rfl) ?_
        refine JL_nil ?_
        refine J_ret ?_
        exact Fin_one rfl (Le_one rfl (vi (by rw [cmpL_take i hc hi hi2, drop_gi (l := a) (i := i) (by omega), (List.drop_eq_nil_of_le (by omega) : b.drop i = [])]; rfl)) rfl)
      ·
        refine J_skip ?_
        refine J_seq ?_
        refine J_region ?_
        refine jl rfl rfl (ltn hn rfl) (pure_move rfl rfl) ?_
        refine jl rfl rfl (ltn hn rfl) (pure_move rfl rfl) ?_
        refine jl rfl rfl (ltn hn rfl) (p_idx rfl rfl rfl (by omega) (mget (by omega))) ?_
        refine jl rfl rfl (ltn hn rfl) (p_ld rfl rfl rfl) ?_
        refine jl rfl rfl (ltn hn rfl) (pure_assign rfl rfl) ?_
        refine JL_nil ?_
        refine J_seq ?_
        refine J_region ?_
        refine jl rfl rfl (ltn hn rfl) (pure_move rfl rfl) ?_
        refine jl rfl rfl (ltn hn rfl) (pure_move rfl rfl) ?_
        refine jl_o rfl (@op_call _ _ _ _ _ _ [.tmp 24, .tmp 25] _ _ _ _ _ (CmpI_spec _ _) rfl Tryz.func139 rfl rfl rfl (ltn hn rfl) ⟨rfl, rfl, ⟨rfl, rfl, trivial⟩⟩ rfl rfl) ?_
        refine jl rfl rfl (ltn hn rfl) (pure_assign rfl rfl) ?_
        refine JL_nil ?_
        refine J_seq ?_
        refine J_region ?_
        refine jl rfl rfl (ltn hn rfl) (pure_move rfl rfl) ?_
        refine jl rfl rfl (ltn hn rfl) (pure_neq rfl rfl rfl) ?_
        refine JL_nil ?_
        refine J_cond_p rfl (fun h3 => ?_) (fun h3 => ?_)
        ·
          refine J_seq ?_
          refine J_region ?_
          refine jl rfl rfl (ltn hn rfl) (pure_move rfl rfl) ?_
          refine jl rfl rfl (ltn hn rfl) (pure_assign rfl rfl) ?_
          refine JL_nil ?_
          refine J_ret ?_
          exact Fin_one rfl (Le_one rfl (vi (by rw [cmpL_take i hc hi hi2, drop_gi (l := a) (i := i) (by omega), drop_gi (l := b) (i := i) (by omega)]; simp only [cmpL]; rw [if_neg h3])) rfl)
        ·
          refine J_skip ?_
          refine J_region ?_
          refine jl rfl rfl (ltn hn rfl) (pure_add rfl rfl rfl (by omega)) ?_
          refine jl rfl rfl (ltn hn rfl) (pure_move rfl rfl) ?_
          refine JL_nil ?_
          have he : gi a i = gi b i := by have h3 := Decidable.not_not.1 h3; unfold cmpI at h3; split at h3; omega; split at h3; omega; omega
          refine ⟨i + 1, ?_, ?_, ?_⟩
          · exact ⟨by omega, by omega, by rw [take_gi (by omega), take_gi (by omega), hc, he]⟩
          · omega
          ·
            refine Le_sub C _ _ ⟨rfl, ⟨rfl, ⟨rfl, ⟨rfl, ⟨(eqv rfl (vi (by omega))), trivial⟩⟩⟩⟩⟩ trivial rfl rfl
    ·
      refine J_exit ?_
      refine J_seq ?_
      refine J_seq ?_
      refine J_region ?_
      refine jl rfl rfl (ltn hn rfl) (pure_move rfl rfl) ?_
      refine jl rfl rfl (ltn hn rfl) (p_len_m rfl rfl) ?_
      refine jl rfl rfl (ltn hn rfl) (pure_move rfl rfl) ?_
      refine jl rfl rfl (ltn hn rfl) (p_len_m rfl rfl) ?_
      refine jl rfl rfl (ltn hn rfl) (pure_lss rfl rfl rfl) ?_
      refine JL_nil ?_
      refine J_cond_p rfl (fun h4 => ?_) (fun h4 => ?_)
      ·
        refine J_seq ?_
        refine J_region ?_
        refine jl rfl rfl (ltn hn rfl) (pure_assign rfl rfl) ?_
        refine JL_nil ?_
        refine J_ret ?_
        exact Fin_one rfl (Le_one rfl (vi (by rw [cmpL_take i hc hi hi2, (List.drop_eq_nil_of_le (by omega) : a.drop i = []), drop_gi (l := b) (i := i) (by omega)]; rfl)) rfl)
      ·
        refine J_skip ?_
        refine J_seq ?_
        refine J_region ?_
        refine jl rfl rfl (ltn hn rfl) (pure_assign rfl rfl) ?_
        refine JL_nil ?_
        refine J_ret ?_
        exact Fin_one rfl (Le_one rfl (vi (by rw [cmpL_take i hc hi hi2, (List.drop_eq_nil_of_le (by omega) : a.drop i = []), (List.drop_eq_nil_of_le (by omega) : b.drop i = [])]; rfl)) rfl)
theorem Size_spec (w : List Int) : Spec Tryz.prog 114 [Net w] (I (w.length : Int)) [] := by
  refine Spec.intro (c := _) Tryz.func114 rfl (Nat.le_of_ble_eq_true rfl) (fun C hC hfx => ?_)
  have hn : C.n = 6 := hC
  refine (show J _ _ _ _ (⟨[(0, Net w)], []⟩ : AS) from ?_)
  refine J_seq ?_
  refine J_region ?_
  refine jl_o rfl (op_box_agg rfl rfl (ltn hn rfl) rfl rfl rfl) ?_
  refine jl rfl rfl (ltn hn rfl) (pure_assign rfl rfl) ?_
  refine JL_nil ?_
  refine J_seq ?_
  refine J_region ?_
  refine jl rfl rfl (ltn hn rfl) (p_fld_b rfl rfl rfl) ?_
  refine jl rfl rfl (ltn hn rfl) (p_ld_b rfl rfl rfl rfl) ?_
  refine jl rfl rfl (ltn hn rfl) (p_len_m rfl rfl) ?_
  refine jl rfl rfl (ltn hn rfl) (pure_assign rfl rfl) ?_
  refine JL_nil ?_
  refine J_ret ?_
  exact Fin_one rfl (Le_one rfl (vi (by rfl)) rfl)
theorem Closed_spec (w : List Int) (x : Int) (h0 : 0 ≤ x) (h1 : x.toNat < w.length) : Spec Tryz.prog 105 [Net w, I x] (I (closedW w x)) [] := by
  refine Spec.intro (c := _) Tryz.func105 rfl (Nat.le_of_ble_eq_true rfl) (fun C hC hfx => ?_)
  have hn : C.n = 13 := hC
  refine (show J _ _ _ _ (⟨[(0, Net w), (1, I x)], []⟩ : AS) from ?_)
  refine J_seq ?_
  refine J_region ?_
  refine jl_o rfl (op_box_agg rfl rfl (ltn hn rfl) rfl rfl rfl) ?_
  refine jl rfl rfl (ltn hn rfl) (pure_assign rfl rfl) ?_
  refine JL_nil ?_
  refine J_seq ?_
  refine J_draw follows_mixed (by kernel_rfl) ?_
  refine jq rfl rfl (ltn hn rfl) (p_fld_b rfl rfl rfl) ?_
  refine jq rfl rfl (ltn hn rfl) (p_ld_b rfl rfl rfl rfl) ?_
  refine jq rfl rfl (ltn hn rfl) (pure_move rfl rfl) ?_
  refine jq rfl rfl (ltn hn rfl) (p_idx rfl rfl rfl (by omega) (mget (by omega))) ?_
  refine jq rfl rfl (ltn hn rfl) (p_ld rfl rfl rfl) ?_
  refine jq rfl rfl (ltn hn rfl) (pure_move rfl rfl) ?_
  refine jq rfl rfl (ltn hn rfl) (p_shl rfl rfl rfl (by omega)) ?_
  refine jq rfl rfl (ltn hn rfl) (p_bits rfl (by simp) rfl rfl rfl) ?_
  refine jq rfl rfl (ltn hn rfl) (pure_assign rfl rfl) ?_
  refine JQ_nil ?_
  refine J_ret ?_
  exact Fin_one rfl (Le_one rfl (vi (by rfl)) rfl)
theorem AllW_spec (w : List Int) (h : w.length ≤ 8) : Spec Tryz.prog 98 [Net w] (I (bit1 (w.length : Int) - 1)) [] := by
  refine Spec.intro (c := _) Tryz.func98 rfl (Nat.le_of_ble_eq_true rfl) (fun C hC hfx => ?_)
  have hn : C.n = 8 := hC
  refine (show J _ _ _ _ (⟨[(0, Net w)], []⟩ : AS) from ?_)
  refine J_seq ?_
  refine J_region ?_
  refine jl_o rfl (op_box_agg rfl rfl (ltn hn rfl) rfl rfl rfl) ?_
  refine jl rfl rfl (ltn hn rfl) (pure_assign rfl rfl) ?_
  refine JL_nil ?_
  refine J_seq ?_
  refine J_region ?_
  refine jl rfl rfl (ltn hn rfl) (p_fld_b rfl rfl rfl) ?_
  refine jl rfl rfl (ltn hn rfl) (p_ld_b rfl rfl rfl rfl) ?_
  refine jl rfl rfl (ltn hn rfl) (p_len_m rfl rfl) ?_
  refine jl rfl rfl (ltn hn rfl) (p_shl rfl rfl rfl (by omega)) ?_
  refine jl rfl rfl (ltn hn rfl) (pure_sub rfl rfl rfl (by have := shl1 (x := (w.length : Int)) (by omega); rw [this.1]; omega)) ?_
  refine jl rfl rfl (ltn hn rfl) (pure_assign rfl rfl) ?_
  refine JL_nil ?_
  refine J_ret ?_
  exact Fin_one rfl (Le_one rfl (vi (by rfl)) rfl)
theorem Mask_spec (l : List Int) (hl : l.length < 2^40) (hx : ∀ x ∈ l, 0 ≤ x) : Spec Tryz.prog 99 [L l] (I (maskL l)) [] := by
  refine Spec.intro (c := _) Tryz.func99 rfl (Nat.le_of_ble_eq_true rfl) (fun C hC hfx => ?_)
  have hn : C.n = 18 := hC
  refine (show J _ _ _ _ (⟨[(0, L l)], []⟩ : AS) from ?_)
  refine J_seq ?_
  refine J_region ?_
  refine jl rfl rfl (ltn hn rfl) (pure_assign rfl rfl) ?_
  refine JL_nil ?_
  refine J_seq ?_
  refine J_region ?_
  refine jl rfl rfl (ltn hn rfl) (pure_assign rfl rfl) ?_
  refine JL_nil ?_
  refine J_seq ?_
  refine J_seq ?_
  refine J_region ?_
  refine jl rfl rfl (ltn hn rfl) (pure_move rfl rfl) ?_
  refine jl rfl rfl (ltn hn rfl) (p_len_m rfl rfl) ?_
  refine jl rfl rfl (ltn hn rfl) (pure_move rfl rfl) ?_
  refine JL_nil ?_
  refine J_block ?_
  refine J_loop (X := Nat) (fun i => ⟨[(3, I (maskL (l.take i))), (6, L l), (7, I (l.length : Int)), (8, I (i : Nat))], []⟩) (fun i => i ≤ l.length) (fun i => l.length - i) 0 ?_ ?_ ?_
  · omega
  ·
    refine Le_sub C _ _ ⟨rfl, ⟨rfl, ⟨rfl, ⟨rfl, trivial⟩⟩⟩⟩ trivial rfl rfl
  ·
    intro i hi
    refine J_seq ?_
    refine J_region ?_
    refine jl rfl rfl (ltn hn rfl) (pure_lss rfl rfl rfl) ?_
    refine JL_nil ?_
    refine J_seq ?_
    refine J_cond_p rfl (fun h1 => ?_) (fun h1 => ?_)
    ·
      refine J_skip ?_
      refine J_seq ?_
      refine J_block ?_
      refine J_seq ?_
      refine J_region ?_
      refine jl rfl rfl (ltn hn rfl) (p_idx rfl rfl rfl (by omega) (mget (by omega))) ?_
      refine jl rfl rfl (ltn hn rfl) (p_ld rfl rfl rfl) ?_
      refine jl rfl rfl (ltn hn rfl) (pure_assign rfl rfl) ?_
      refine JL_nil ?_
      refine J_region ?_
      refine jl rfl rfl (ltn hn rfl) (pure_move rfl rfl) ?_
      refine jl rfl rfl (ltn hn rfl) (pure_move rfl rfl) ?_
      refine jl rfl rfl (ltn hn rfl) (p_shl rfl rfl rfl (by exact hx _ (gi_mem h1))) ?_
      refine jl rfl rfl (ltn hn rfl) (p_bits rfl (by simp) rfl rfl rfl) ?_
      refine jl rfl rfl (ltn hn rfl) (pure_assign rfl rfl) ?_
      refine JL_nil ?_
      refine J_region ?_
      refine jl rfl rfl (ltn hn rfl) (pure_add rfl rfl rfl (by omega)) ?_
      refine jl rfl rfl (ltn hn rfl) (pure_move rfl rfl) ?_
      refine JL_nil ?_
      refine ⟨i + 1, ?_, ?_, ?_⟩
      · omega
      · omega
      ·
        refine Le_sub C _ _ ⟨(eqv rfl (vi (by rw [take_gi (l := l) (by omega)]; unfold maskL; rw [List.foldl_append]; rfl))), ⟨rfl, ⟨rfl, ⟨(eqv rfl (vi (by omega))), trivial⟩⟩⟩⟩ trivial rfl rfl
    ·
      refine J_exit ?_
      refine J_seq ?_
      refine J_region ?_
      refine jl rfl rfl (ltn hn rfl) (pure_move rfl rfl) ?_
      refine jl rfl rfl (ltn hn rfl) (pure_assign rfl rfl) ?_
      refine JL_nil ?_
      refine J_ret ?_
      exact Fin_one rfl (Le_one rfl (vi (by rw [take_all h1])) rfl)
theorem Around_spec (w : List Int) (set : Int) (hl : w.length < 2^40) : Spec Tryz.prog 104 [Net w, I set] (I (aroundW w set)) [] := by
  refine Spec.intro (c := _) Tryz.func104 rfl (Nat.le_of_ble_eq_true rfl) (fun C hC hfx => ?_)
  have hn : C.n = 27 := hC
  refine (show J _ _ _ _ (⟨[(0, Net w), (1, I set)], []⟩ : AS) from ?_)
  refine J_seq ?_
  refine J_region ?_
  refine jl_o rfl (op_box_agg rfl rfl (ltn hn rfl) rfl rfl rfl) ?_
  refine jl rfl rfl (ltn hn rfl) (pure_assign rfl rfl) ?_
  refine JL_nil ?_
  refine J_seq ?_
  refine J_region ?_
  refine jl rfl rfl (ltn hn rfl) (pure_move rfl rfl) ?_
  refine jl rfl rfl (ltn hn rfl) (pure_assign rfl rfl) ?_
  refine JL_nil ?_
  refine J_seq ?_
  refine J_seq ?_
  refine J_region ?_
  refine jl rfl rfl (ltn hn rfl) (p_fld_b rfl rfl rfl) ?_
  refine jl rfl rfl (ltn hn rfl) (p_ld_b rfl rfl rfl rfl) ?_
  refine jl rfl rfl (ltn hn rfl) (p_len_m rfl rfl) ?_
  refine jl rfl rfl (ltn hn rfl) (pure_move rfl rfl) ?_
  refine JL_nil ?_
  refine J_block ?_
  refine J_loop (X := Nat) (fun i => ⟨[(1, I set), (5, I ((ints i).foldl (fun out i => if bitT set i then Go.bits .or .i64 out (gi w i) else out) set)), (10, L w), (11, I (w.length : Int)), (12, I (i : Nat))], []⟩) (fun i => i ≤ w.length) (fun i => w.length - i) 0 ?_ ?_ ?_
  · omega
  ·
    refine Le_sub C _ _ ⟨rfl, ⟨rfl, ⟨rfl, ⟨rfl, ⟨rfl, trivial⟩⟩⟩⟩⟩ trivial rfl rfl
  ·
    intro i hi
    refine J_seq ?_
    refine J_region ?_
    refine jl rfl rfl (ltn hn rfl) (pure_lss rfl rfl rfl) ?_
    refine JL_nil ?_
    refine J_seq ?_
    refine J_cond_p rfl (fun h1 => ?_) (fun h1 => ?_)
    ·
      refine J_skip ?_
      refine J_seq ?_
      refine J_block ?_
      refine J_seq ?_
      refine J_region ?_
      refine jl rfl rfl (ltn hn rfl) (pure_move rfl rfl) ?_
      refine jl rfl rfl (ltn hn rfl) (p_idx rfl rfl rfl (by omega) (mget (by omega))) ?_
      refine jl rfl rfl (ltn hn rfl) (p_ld rfl rfl rfl) ?_
      refine jl rfl rfl (ltn hn rfl) (pure_assign rfl rfl) ?_
      refine jl rfl rfl (ltn hn rfl) (pure_assign rfl rfl) ?_
      refine JL_nil ?_
      refine J_seq ?_
      refine J_region ?_
      refine jl rfl rfl (ltn hn rfl) (pure_move rfl rfl) ?_
      refine jl rfl rfl (ltn hn rfl) (pure_move rfl rfl) ?_
      refine jl rfl rfl (ltn hn rfl) (p_shr rfl rfl rfl (by omega)) ?_
      refine jl rfl rfl (ltn hn rfl) (p_bits rfl (by simp) rfl rfl rfl) ?_
      refine jl rfl rfl (ltn hn rfl) (pure_eql rfl rfl rfl) ?_
      refine JL_nil ?_
      refine J_cond_p rfl (fun h2 => ?_) (fun h2 => ?_)
      ·
        refine J_region ?_
        refine jl rfl rfl (ltn hn rfl) (pure_move rfl rfl) ?_
        refine jl rfl rfl (ltn hn rfl) (pure_move rfl rfl) ?_
        refine jl rfl rfl (ltn hn rfl) (p_bits rfl (by simp) rfl rfl rfl) ?_
        refine jl rfl rfl (ltn hn rfl) (pure_assign rfl rfl) ?_
        refine JL_nil ?_
        refine J_region ?_
        refine jl rfl rfl (ltn hn rfl) (pure_add rfl rfl rfl (by omega)) ?_
        refine jl rfl rfl (ltn hn rfl) (pure_move rfl rfl) ?_
        refine JL_nil ?_
        refine ⟨i + 1, ?_, ?_, ?_⟩
        · omega
        · omega
        ·
          refine Le_sub C _ _ ⟨rfl, ⟨(eqv rfl (vi (by rw [ints_succ, List.foldl_append]; simp only [List.foldl_cons, List.foldl_nil]; rw [if_pos (by simpa [bitT] using h2)]))), ⟨rfl, ⟨rfl, ⟨(eqv rfl (vi (by omega))), trivial⟩⟩⟩⟩⟩ trivial rfl rfl
      ·
        refine J_skip ?_
        refine J_region ?_
        refine jl rfl rfl (ltn hn rfl) (pure_add rfl rfl rfl (by omega)) ?_
        refine jl rfl rfl (ltn hn rfl) (pure_move rfl rfl) ?_
        refine JL_nil ?_
        refine ⟨i + 1, ?_, ?_, ?_⟩
        · omega
        · omega
        ·
          refine Le_sub C _ _ ⟨rfl, ⟨(eqv rfl (vi (by rw [ints_succ, List.foldl_append]; simp only [List.foldl_cons, List.foldl_nil]; rw [if_neg (by simpa [bitT] using h2)]))), ⟨rfl, ⟨rfl, ⟨(eqv rfl (vi (by omega))), trivial⟩⟩⟩⟩⟩ trivial rfl rfl
    ·
      refine J_exit ?_
      refine J_seq ?_
      refine J_region ?_
      refine jl rfl rfl (ltn hn rfl) (pure_move rfl rfl) ?_
      refine jl rfl rfl (ltn hn rfl) (pure_assign rfl rfl) ?_
      refine JL_nil ?_
      refine J_ret ?_
      obtain rfl : i = w.length := by omega
      exact Fin_one rfl (Le_one rfl rfl rfl)
theorem Unsafe_spec (w : List Int) (u : Int) (c : List Int) (hw : w.length < 2^40) (hl : c.length < 2^40) (hx : ∀ x ∈ c, 0 ≤ x) : Spec Tryz.prog 100 [Net w, I u, L c] (I (unsafeW w u c)) [] := by
  refine Spec.intro (c := _) Tryz.func100 rfl (Nat.le_of_ble_eq_true rfl) (fun C hC hfx => ?_)
  have hn : C.n = 17 := hC
  refine (show J _ _ _ _ (⟨[(0, Net w), (1, I u), (2, L c)], []⟩ : AS) from ?_)
  refine J_seq ?_
  refine J_region ?_
  refine jl_o rfl (op_box_agg rfl rfl (ltn hn rfl) rfl rfl rfl) ?_
  refine jl rfl rfl (ltn hn rfl) (pure_assign rfl rfl) ?_
  refine JL_nil ?_
  refine J_seq ?_
  refine J_region ?_
  refine jl rfl rfl (ltn hn rfl) (pure_move rfl rfl) ?_
  refine jl_o rfl (@op_call _ _ _ _ _ _ [.tmp 8] _ _ _ _ _ (Mask_spec _ (by omega) (by assumption)) rfl Tryz.func99 rfl rfl rfl (ltn hn rfl) ⟨rfl, rfl, trivial⟩ rfl rfl) ?_
  refine jl rfl rfl (ltn hn rfl) (pure_assign rfl rfl) ?_
  refine JL_nil ?_
  refine J_seq ?_
  refine J_region ?_
  refine jl rfl rfl (ltn hn rfl) (p_ld_ba rfl rfl rfl (Nat.le_of_ble_eq_true rfl) rfl) ?_
  refine jl rfl rfl (ltn hn rfl) (pure_move rfl rfl) ?_
  refine jl rfl rfl (ltn hn rfl) (pure_move rfl rfl) ?_
  refine jl rfl rfl (ltn hn rfl) (p_bits rfl (by simp) rfl rfl rfl) ?_
  refine jl_o rfl (@op_call _ _ _ _ _ _ [.tmp 10, .tmp 13] _ _ _ _ _ (Around_spec _ _ (by omega)) rfl Tryz.func104 rfl rfl rfl (ltn hn rfl) ⟨rfl, rfl, ⟨rfl, rfl, trivial⟩⟩ rfl rfl) ?_
  refine jl rfl rfl (ltn hn rfl) (pure_move rfl rfl) ?_
  refine jl rfl rfl (ltn hn rfl) (p_bits rfl (by simp) rfl rfl rfl) ?_
  refine jl rfl rfl (ltn hn rfl) (pure_assign rfl rfl) ?_
  refine JL_nil ?_
  refine J_ret ?_
  exact Fin_one rfl (Le_one rfl (vi (by rfl)) rfl)
end Go.Proofs.YtmiijpobhajfmaaGreat.J
namespace Go.Proofs.YtmiijpobhajfmaaGreat.J
open Go Go.RowKit
set_option linter.unusedVariables false
set_option linter.unusedSimpArgs false

theorem cmp_bef (a b : Int × Int) : (cmpL [a.1, a.2] [b.1, b.2] < 0) = (befP a b = true) := by
  simp only [cmpL, cmpI, befP, Bool.or_eq_true, Bool.and_eq_true, decide_eq_true_eq, eq_iff_iff]
  split <;> (try split) <;> (try split) <;> (try split) <;> omega
theorem bef_cmp (a b : Int × Int) : befP a b = decide (cmpL [a.1, a.2] [b.1, b.2] < 0) := by
  rw [Bool.eq_iff_iff, decide_eq_true_eq, cmp_bef]
theorem good_bad2 {n : Int} {es : List (Int × Int)} {i : Nat} (h : (i : Int) < es.length) (hp : edgeOK (n - 1) es i = false) : goodG n es = false := by
  unfold goodG
  have : (List.range es.length).all (edgeOK (n - 1) es) = false := by
    rw [List.all_eq_false]
    exact ⟨i, by simp; omega, by simp [hp]⟩
  simp [this]
theorem good_end2 {n : Int} {es : List (Int × Int)} {i : Nat} (hi : i ≤ es.length) (h : ¬ (i : Int) < es.length) (hn : 0 ≤ n ∧ n ≤ 8) (hp : (List.range i).all (edgeOK (n - 1) es) = true) : true = goodG n es := by
  unfold goodG
  obtain rfl : i = es.length := by omega
  simp [hp, hn.1, hn.2]
theorem good_out {n : Int} {es : List (Int × Int)} (h : ¬ (0 ≤ n ∧ n ≤ 8)) : false = goodG n es := by
  unfold goodG
  have : (decide (0 ≤ n) && decide (n ≤ 8)) = false := by
    simp only [Bool.and_eq_false_iff, decide_eq_false_iff_not]
    omega
  rw [this]
  rfl

theorem IsGraph_spec (n : Int) (es : List (Int × Int)) (hl : es.length < 2^40) : Spec Tryz.prog 93 [Gr n es] (B (goodG n es)) [] := by
  refine Spec.intro (c := _) Tryz.func93 rfl (Nat.le_of_ble_eq_true rfl) (fun C hC hfx => ?_)
  have hn : C.n = 50 := hC
  refine (show J _ _ _ _ (⟨[(0, Gr n es)], []⟩ : AS) from ?_)
  refine J_seq ?_
  refine J_region ?_
  refine jl_o rfl (op_box_agg rfl rfl (ltn hn rfl) rfl rfl rfl) ?_
  refine jl rfl rfl (ltn hn rfl) (pure_assign rfl rfl) ?_
  refine JL_nil ?_
  refine J_seq ?_
  refine J_seq ?_
  refine J_region ?_
  refine jl rfl rfl (ltn hn rfl) (p_fld_b rfl rfl rfl) ?_
  refine jl rfl rfl (ltn hn rfl) (p_ld_b rfl rfl rfl rfl) ?_
  refine jl_o rfl (@op_call _ _ _ _ _ _ [.tmp 6, .const (.int .i64 0), .const (.int .i64 8)] _ _ _ _ _ (Within_spec _ _ _) rfl Tryz.func83 rfl rfl rfl (ltn hn rfl) ⟨rfl, rfl, ⟨rfl, rfl, ⟨rfl, rfl, trivial⟩⟩⟩ rfl rfl) ?_
  refine jl rfl rfl (ltn hn rfl) (pure_not_b rfl rfl) ?_
  refine JL_nil ?_
  refine J_cond rfl (fun h1 => ?_) (fun h1 => ?_)
  ·
    refine J_seq ?_
    refine J_region ?_
    refine jl rfl rfl (ltn hn rfl) (pure_assign rfl rfl) ?_
    refine JL_nil ?_
    refine J_ret ?_
    exact Fin_one rfl (Le_one rfl (vb (by exact good_out (by simp at h1; omega))) rfl)
  ·
    refine J_skip ?_
    refine J_seq ?_
    refine J_seq ?_
    refine J_region ?_
    refine jl rfl rfl (ltn hn rfl) (p_fld_b rfl rfl rfl) ?_
    refine jl rfl rfl (ltn hn rfl) (p_ld_b rfl rfl rfl rfl) ?_
    refine jl rfl rfl (ltn hn rfl) (p_len_m rfl rfl) ?_
    refine jl rfl rfl (ltn hn rfl) (pure_move rfl rfl) ?_
    refine JL_nil ?_
    refine J_block ?_
    have hnb : 0 ≤ n ∧ n ≤ 8 := by simpa using h1
    refine J_loop (X := Nat) (fun i => ⟨[(1, .box 1 0), (10, LP es), (11, I (es.length : Int)), (12, I (i : Nat))], [(1, .box 30 [I n, LP es])]⟩) (fun i => i ≤ es.length ∧ (List.range i).all (edgeOK (n - 1) es) = true) (fun i => es.length - i) 0 ?_ ?_ ?_
    · exact ⟨by omega, by simp⟩
    ·
      refine Le_sub C _ _ ⟨rfl, ⟨rfl, ⟨rfl, ⟨rfl, trivial⟩⟩⟩⟩ ⟨rfl, trivial⟩ rfl rfl
    ·
      intro i hR
      obtain ⟨hi, hc⟩ := hR
      refine J_seq ?_
      refine J_region ?_
      refine jl rfl rfl (ltn hn rfl) (pure_lss rfl rfl rfl) ?_
      refine JL_nil ?_
      refine J_seq ?_
      refine J_cond_p rfl (fun h2 => ?_) (fun h2 => ?_)
      ·
        have hcb := bef_cmp (gi es ((i : Int) - 1)) (gi es i)
        refine J_skip ?_
        refine J_seq ?_
        refine J_block ?_
        refine J_seq ?_
        refine J_region ?_
        refine jl rfl rfl (ltn hn rfl) (pure_move rfl rfl) ?_
        refine jl rfl rfl (ltn hn rfl) (p_idx rfl rfl rfl (by omega) (mget (by omega))) ?_
        refine jl rfl rfl (ltn hn rfl) (p_ld_a rfl rfl (Nat.le_of_ble_eq_true rfl) rfl) ?_
        refine jl_o rfl (@op_alloc _ _ _ _ _ _ _ rfl ZrT.out rfl rfl (ltn hn rfl) rfl) ?_
        refine jl rfl rfl (ltn hn rfl) (pure_assign rfl rfl) ?_
        refine jl_o rfl (op_store_box_agg rfl rfl (by exact SzT.out) rfl rfl (by exact Nat.le_of_ble_eq_true rfl) rfl rfl) ?_
        refine JL_nil ?_
        refine J_seq ?_
        refine J_le (Le_freezeB C _ 4 rfl rfl) ?_
        refine J_draw follows_mixed (by kernel_rfl) ?_
        refine jq rfl rfl (ltn hn rfl) (p_idx_ar rfl rfl rfl (by omega) (by omega) rfl) ?_
        refine jq rfl rfl (ltn hn rfl) (p_ld rfl rfl rfl) ?_
        refine jq rfl rfl (ltn hn rfl) (pure_lss rfl rfl rfl) ?_
        refine jq rfl rfl (ltn hn rfl) (pure_move rfl rfl) ?_
        refine jq_split rfl rfl rfl (fun h3 => ?_) (fun h3 => ?_)
        ·
          refine jq_s rfl rfl (ltn hn rfl) ?_
          refine jq_s rfl rfl (ltn hn rfl) ?_
          refine jq_s rfl rfl (ltn hn rfl) ?_
          refine jq_s rfl rfl (ltn hn rfl) ?_
          refine jq_s rfl rfl (ltn hn rfl) ?_
          refine jq rfl rfl (ltn hn rfl) (pure_pick_t rfl rfl rfl) ?_
          refine jq rfl rfl (ltn hn rfl) (pure_move rfl rfl) ?_
          refine jq_s rfl rfl (ltn hn rfl) ?_
          refine jq_s rfl rfl (ltn hn rfl) ?_
          refine jq_s rfl rfl (ltn hn rfl) ?_
          refine jq_s rfl rfl (ltn hn rfl) ?_
          refine jq_s rfl rfl (ltn hn rfl) ?_
          refine jq rfl rfl (ltn hn rfl) (pure_pick_t rfl rfl rfl) ?_
          refine jq rfl rfl (ltn hn rfl) (pure_move rfl rfl) ?_
          refine jq_s rfl rfl (ltn hn rfl) ?_
          refine jq_s rfl rfl (ltn hn rfl) ?_
          refine jq_s rfl rfl (ltn hn rfl) ?_
          refine jq_s rfl rfl (ltn hn rfl) ?_
          refine jq_s rfl rfl (ltn hn rfl) ?_
          refine jq_s rfl rfl (ltn hn rfl) ?_
          refine jq_s rfl rfl (ltn hn rfl) ?_
          refine jq_s rfl rfl (ltn hn rfl) ?_
          refine jq_s rfl rfl (ltn hn rfl) ?_
          refine jq_s rfl rfl (ltn hn rfl) ?_
          refine jq_s rfl rfl (ltn hn rfl) ?_
          refine jq_s rfl rfl (ltn hn rfl) ?_
          refine jq_s rfl rfl (ltn hn rfl) ?_
          refine jq rfl rfl (ltn hn rfl) (pure_pick_t rfl rfl rfl) ?_
          refine JQ_nil ?_
          refine J_cond_t rfl ?_
          refine J_seq ?_
          refine J_region ?_
          refine jl rfl rfl (ltn hn rfl) (pure_assign rfl rfl) ?_
          refine JL_nil ?_
          refine J_ret ?_
          first | (exact Fin_one rfl (Le_one rfl (vb (good_end2 hi h2 hnb hc)) rfl)) | (exact Fin_one rfl (Le_one rfl (vb (good_bad2 h2 (by simp_all [edgeOK] <;> omega)).symm) rfl))
        ·
          refine jq rfl rfl (ltn hn rfl) (p_idx_ar rfl rfl rfl (by omega) (by omega) rfl) ?_
          refine jq rfl rfl (ltn hn rfl) (p_ld rfl rfl rfl) ?_
          refine jq rfl rfl (ltn hn rfl) (p_idx_ar rfl rfl rfl (by omega) (by omega) rfl) ?_
          refine jq rfl rfl (ltn hn rfl) (p_ld rfl rfl rfl) ?_
          refine jq rfl rfl (ltn hn rfl) (pure_geq rfl rfl rfl) ?_
          refine jq rfl rfl (ltn hn rfl) (pure_pick_f rfl rfl rfl) ?_
          refine jq rfl rfl (ltn hn rfl) (pure_move rfl rfl) ?_
          refine jq_split rfl rfl rfl (fun h4 => ?_) (fun h4 => ?_)
          ·
            refine jq_s rfl rfl (ltn hn rfl) ?_
            refine jq_s rfl rfl (ltn hn rfl) ?_
            refine jq_s rfl rfl (ltn hn rfl) ?_
            refine jq_s rfl rfl (ltn hn rfl) ?_
            refine jq_s rfl rfl (ltn hn rfl) ?_
            refine jq rfl rfl (ltn hn rfl) (pure_pick_t rfl rfl rfl) ?_
            refine jq rfl rfl (ltn hn rfl) (pure_move rfl rfl) ?_
            refine jq_s rfl rfl (ltn hn rfl) ?_
            refine jq_s rfl rfl (ltn hn rfl) ?_
            refine jq_s rfl rfl (ltn hn rfl) ?_
            refine jq_s rfl rfl (ltn hn rfl) ?_
            refine jq_s rfl rfl (ltn hn rfl) ?_
            refine jq_s rfl rfl (ltn hn rfl) ?_
            refine jq_s rfl rfl (ltn hn rfl) ?_
            refine jq_s rfl rfl (ltn hn rfl) ?_
            refine jq_s rfl rfl (ltn hn rfl) ?_
            refine jq_s rfl rfl (ltn hn rfl) ?_
            refine jq_s rfl rfl (ltn hn rfl) ?_
            refine jq_s rfl rfl (ltn hn rfl) ?_
            refine jq_s rfl rfl (ltn hn rfl) ?_
            refine jq rfl rfl (ltn hn rfl) (pure_pick_t rfl rfl rfl) ?_
            refine JQ_nil ?_
            refine J_cond_t rfl ?_
            refine J_seq ?_
            refine J_region ?_
            refine jl rfl rfl (ltn hn rfl) (pure_assign rfl rfl) ?_
            refine JL_nil ?_
            refine J_ret ?_
            first | (exact Fin_one rfl (Le_one rfl (vb (good_end2 hi h2 hnb hc)) rfl)) | (exact Fin_one rfl (Le_one rfl (vb (good_bad2 h2 (by simp_all [edgeOK] <;> omega)).symm) rfl))
          ·
            refine jq rfl rfl (ltn hn rfl) (p_idx_ar rfl rfl rfl (by omega) (by omega) rfl) ?_
            refine jq rfl rfl (ltn hn rfl) (p_ld rfl rfl rfl) ?_
            refine jq rfl rfl (ltn hn rfl) (p_fld_b rfl rfl rfl) ?_
            refine jq rfl rfl (ltn hn rfl) (p_ld_b rfl rfl rfl rfl) ?_
            refine jq rfl rfl (ltn hn rfl) (pure_geq rfl rfl rfl) ?_
            refine jq rfl rfl (ltn hn rfl) (pure_pick_f rfl rfl rfl) ?_
            refine jq rfl rfl (ltn hn rfl) (pure_move rfl rfl) ?_
            refine jq_split rfl rfl rfl (fun h5 => ?_) (fun h5 => ?_)
            ·
              refine jq_s rfl rfl (ltn hn rfl) ?_
              refine jq_s rfl rfl (ltn hn rfl) ?_
              refine jq_s rfl rfl (ltn hn rfl) ?_
              refine jq_s rfl rfl (ltn hn rfl) ?_
              refine jq_s rfl rfl (ltn hn rfl) ?_
              refine jq_s rfl rfl (ltn hn rfl) ?_
              refine jq_s rfl rfl (ltn hn rfl) ?_
              refine jq_s rfl rfl (ltn hn rfl) ?_
              refine jq_s rfl rfl (ltn hn rfl) ?_
              refine jq_s rfl rfl (ltn hn rfl) ?_
              refine jq_s rfl rfl (ltn hn rfl) ?_
              refine jq_s rfl rfl (ltn hn rfl) ?_
              refine jq_s rfl rfl (ltn hn rfl) ?_
              refine jq rfl rfl (ltn hn rfl) (pure_pick_t rfl rfl rfl) ?_
              refine JQ_nil ?_
              refine J_cond_t rfl ?_
              refine J_seq ?_
              refine J_region ?_
              refine jl rfl rfl (ltn hn rfl) (pure_assign rfl rfl) ?_
              refine JL_nil ?_
              refine J_ret ?_
              first | (exact Fin_one rfl (Le_one rfl (vb (good_end2 hi h2 hnb hc)) rfl)) | (exact Fin_one rfl (Le_one rfl (vb (good_bad2 h2 (by simp_all [edgeOK] <;> omega)).symm) rfl))
            ·
              refine jq rfl rfl (ltn hn rfl) (pure_move rfl rfl) ?_
              refine jq rfl rfl (ltn hn rfl) (pure_gtr rfl rfl rfl) ?_
              refine jq rfl rfl (ltn hn rfl) (pure_move rfl rfl) ?_
              refine jq_split rfl rfl rfl (fun h6 => ?_) (fun h6 => ?_)
              ·
                refine jq rfl rfl (ltn hn rfl) (p_fld_b rfl rfl rfl) ?_
                refine jq rfl rfl (ltn hn rfl) (p_ld_b rfl rfl rfl rfl) ?_
                refine jq rfl rfl (ltn hn rfl) (pure_move rfl rfl) ?_
                refine jq rfl rfl (ltn hn rfl) (pure_sub rfl rfl rfl (by omega)) ?_
                refine jq rfl rfl (ltn hn rfl) (p_idx rfl rfl rfl (by omega) (mget (by omega))) ?_
                refine jq rfl rfl (ltn hn rfl) (pure_slice_ref rfl ArT.und (ArT.siz 89) rfl (Nat.le_of_ble_eq_true rfl) (Nat.le_of_ble_eq_true rfl)) ?_
                refine jq rfl rfl (ltn hn rfl) (pure_slice_ref rfl ArT.und (ArT.siz 89) rfl (Nat.le_of_ble_eq_true rfl) (Nat.le_of_ble_eq_true rfl)) ?_
                refine JQ_call (args := [.tmp 43, .tmp 44]) rfl (CmpL_spec [(gi es ((i : Int) - 1)).1, (gi es ((i : Int) - 1)).2] [(gi es (i : Int)).1, (gi es (i : Int)).2] (by simp) (by simp)) rfl Tryz.func122 rfl rfl rfl (ltn hn rfl) ⟨rfl, rfl, ⟨rfl, rfl, trivial⟩⟩ ?_
                refine jq rfl rfl (ltn hn rfl) (pure_geq rfl rfl rfl) ?_
                refine jq rfl rfl (ltn hn rfl) (pure_pick_t rfl rfl rfl) ?_
                refine jq rfl rfl (ltn hn rfl) (pure_pick_f rfl rfl rfl) ?_
                refine JQ_nil ?_
                refine J_cond_p rfl (fun h7 => ?_) (fun h7 => ?_)
                ·
                  refine J_seq ?_
                  refine J_region ?_
                  refine jl rfl rfl (ltn hn rfl) (pure_assign rfl rfl) ?_
                  refine JL_nil ?_
                  refine J_ret ?_
                  first | (exact Fin_one rfl (Le_one rfl (vb (good_end2 hi h2 hnb hc)) rfl)) | (exact Fin_one rfl (Le_one rfl (vb (good_bad2 h2 (by simp_all [edgeOK] <;> omega)).symm) rfl))
                ·
                  refine J_skip ?_
                  refine J_region ?_
                  refine jl rfl rfl (ltn hn rfl) (pure_add rfl rfl rfl (by omega)) ?_
                  refine jl rfl rfl (ltn hn rfl) (pure_move rfl rfl) ?_
                  refine JL_nil ?_
                  refine ⟨i + 1, ?_, ?_, ?_⟩
                  · exact ⟨by omega, range_all_step hc (by simp_all [edgeOK] <;> omega)⟩
                  · omega
                  ·
                    refine Le_sub C _ _ ⟨rfl, ⟨rfl, ⟨rfl, ⟨(eqv rfl (vi (by omega))), trivial⟩⟩⟩⟩ ⟨rfl, trivial⟩ rfl rfl
              ·
                refine jq_s rfl rfl (ltn hn rfl) ?_
                refine jq_s rfl rfl (ltn hn rfl) ?_
                refine jq_s rfl rfl (ltn hn rfl) ?_
                refine jq_s rfl rfl (ltn hn rfl) ?_
                refine jq_s rfl rfl (ltn hn rfl) ?_
                refine jq_s rfl rfl (ltn hn rfl) ?_
                refine jq_s rfl rfl (ltn hn rfl) ?_
                refine jq_s rfl rfl (ltn hn rfl) ?_
                refine jq_s rfl rfl (ltn hn rfl) ?_
                refine jq rfl rfl (ltn hn rfl) (pure_pick_f rfl rfl rfl) ?_
                refine jq rfl rfl (ltn hn rfl) (pure_pick_f rfl rfl rfl) ?_
                refine JQ_nil ?_
                refine J_cond_f rfl ?_
                refine J_skip ?_
                refine J_region ?_
                refine jl rfl rfl (ltn hn rfl) (pure_add rfl rfl rfl (by omega)) ?_
                refine jl rfl rfl (ltn hn rfl) (pure_move rfl rfl) ?_
                refine JL_nil ?_
                refine ⟨i + 1, ?_, ?_, ?_⟩
                · exact ⟨by omega, range_all_step hc (by simp_all [edgeOK] <;> omega)⟩
                · omega
                ·
                  refine Le_sub C _ _ ⟨rfl, ⟨rfl, ⟨rfl, ⟨(eqv rfl (vi (by omega))), trivial⟩⟩⟩⟩ ⟨rfl, trivial⟩ rfl rfl
      ·
        refine J_exit ?_
        refine J_seq ?_
        refine J_region ?_
        refine jl rfl rfl (ltn hn rfl) (pure_assign rfl rfl) ?_
        refine JL_nil ?_
        refine J_ret ?_
        first | (exact Fin_one rfl (Le_one rfl (vb (good_end2 hi h2 hnb hc)) rfl)) | (exact Fin_one rfl (Le_one rfl (vb (good_bad2 h2 (by simp_all [edgeOK] <;> omega)).symm) rfl))
theorem IsCop_spec (n : Int) (es : List (Int × Int)) (k : Int) (hl : es.length < 2^40) : Spec Tryz.prog 64 [Gr n es, I k] (B (fieldG n es k)) [] := by
  refine Spec.intro (c := _) Tryz.func64 rfl (Nat.le_of_ble_eq_true rfl) (fun C hC hfx => ?_)
  have hn : C.n = 16 := hC
  refine (show J _ _ _ _ (⟨[(0, Gr n es), (1, I k)], []⟩ : AS) from ?_)
  refine J_seq ?_
  refine J_region ?_
  refine jl_o rfl (op_box_agg rfl rfl (ltn hn rfl) rfl rfl rfl) ?_
  refine jl rfl rfl (ltn hn rfl) (pure_assign rfl rfl) ?_
  refine JL_nil ?_
  refine J_seq ?_
  refine J_region ?_
  refine jl rfl rfl (ltn hn rfl) (p_ld_ba rfl rfl rfl (Nat.le_of_ble_eq_true rfl) rfl) ?_
  refine jl_o rfl (@op_call _ _ _ _ _ _ [.tmp 5] _ _ _ _ _ (IsGraph_spec _ _ (by omega)) rfl Tryz.func93 rfl rfl rfl (ltn hn rfl) ⟨rfl, rfl, trivial⟩ rfl rfl) ?_
  refine jl rfl rfl (ltn hn rfl) (pure_move rfl rfl) ?_
  refine jl_split_b rfl rfl rfl (fun h1 => ?_) (fun h1 => ?_)
  ·
    refine jl rfl rfl (ltn hn rfl) (p_fld_b rfl rfl rfl) ?_
    refine jl rfl rfl (ltn hn rfl) (p_ld_b rfl rfl rfl rfl) ?_
    refine jl rfl rfl (ltn hn rfl) (pure_gtr rfl rfl rfl) ?_
    refine jl rfl rfl (ltn hn rfl) (pure_pick_t rfl rfl rfl) ?_
    refine jl rfl rfl (ltn hn rfl) (pure_move rfl rfl) ?_
    refine jl_split rfl rfl rfl (fun h2 => ?_) (fun h2 => ?_)
    ·
      refine jl rfl rfl (ltn hn rfl) (pure_move rfl rfl) ?_
      refine jl_o rfl (@op_call _ _ _ _ _ _ [.tmp 13, .const (.int .i64 1), .const (.int .i64 3)] _ _ _ _ _ (Within_spec _ _ _) rfl Tryz.func83 rfl rfl rfl (ltn hn rfl) ⟨rfl, rfl, ⟨rfl, rfl, ⟨rfl, rfl, trivial⟩⟩⟩ rfl rfl) ?_
      refine jl rfl rfl (ltn hn rfl) (pure_pick_t rfl rfl rfl) ?_
      refine jl rfl rfl (ltn hn rfl) (pure_assign rfl rfl) ?_
      refine JL_nil ?_
      refine J_ret ?_
      exact Fin_one rfl (Le_one rfl (vb (by simp_all [fieldG] <;> (intros; omega))) rfl)
    ·
      refine jl_s rfl rfl (ltn hn rfl) ?_
      refine jl_s rfl rfl (ltn hn rfl) ?_
      refine jl rfl rfl (ltn hn rfl) (pure_pick_f rfl rfl rfl) ?_
      refine jl rfl rfl (ltn hn rfl) (pure_assign rfl rfl) ?_
      refine JL_nil ?_
      refine J_ret ?_
      exact Fin_one rfl (Le_one rfl (vb (by simp_all [fieldG] <;> (intros; omega))) rfl)
  ·
    refine jl_s rfl rfl (ltn hn rfl) ?_
    refine jl_s rfl rfl (ltn hn rfl) ?_
    refine jl_s rfl rfl (ltn hn rfl) ?_
    refine jl rfl rfl (ltn hn rfl) (pure_pick_f rfl rfl rfl) ?_
    refine jl rfl rfl (ltn hn rfl) (pure_move rfl rfl) ?_
    refine jl_s rfl rfl (ltn hn rfl) ?_
    refine jl_s rfl rfl (ltn hn rfl) ?_
    refine jl rfl rfl (ltn hn rfl) (pure_pick_f rfl rfl rfl) ?_
    refine jl rfl rfl (ltn hn rfl) (pure_assign rfl rfl) ?_
    refine JL_nil ?_
    refine J_ret ?_
    exact Fin_one rfl (Le_one rfl (vb (by simp_all [fieldG] <;> (intros; omega))) rfl)
theorem Clone_spec (l : List Int) (hl : l.length < 2^40) : Spec Tryz.prog 85 [L l] (.own 0 []) [(0, Ow 3 1 cI l)] := by
  refine Spec.intro (c := _) Tryz.func85 rfl (Nat.le_of_ble_eq_true rfl) (fun C hC hfx => ?_)
  have hn : C.n = 8 := hC
  refine (show J _ _ _ _ (⟨[(0, L l)], []⟩ : AS) from ?_)
  refine J_seq ?_
  refine J_region ?_
  refine jl rfl rfl (ltn hn rfl) (pure_assign rfl rfl) ?_
  refine JL_nil ?_
  refine J_seq ?_
  refine J_seq ?_
  refine J_region ?_
  refine jl rfl rfl (ltn hn rfl) (pure_move rfl rfl) ?_
  refine jl_isnil rfl rfl SlT.und rfl (ltn hn rfl) rfl (fun h1 => ?_) ?_
  ·
    refine JL_nil ?_
    refine J_cond_t rfl ?_
    refine J_seq ?_
    refine J_region ?_
    refine jl rfl rfl (ltn hn rfl) (pure_assign rfl rfl) ?_
    refine JL_nil ?_
    refine J_ret ?_
    obtain rfl : l = [] := by simpa using h1
    exact Fin_one rfl (Le.trans (Le_adopt C _ 2 0 (.leaf 3 1 []) rfl rfl (.inl ⟨_, _, rfl⟩)) (Le_sub C _ _ ⟨rfl, trivial⟩ ⟨rfl, trivial⟩ rfl rfl))
  ·
    refine JL_nil ?_
    refine J_cond_f rfl ?_
    refine J_skip ?_
    refine J_seq ?_
    refine J_region ?_
    refine jl_o rfl (@op_lit0 _ _ _ _ _ cI _ _ _ _ _ SlT.slk rfl rfl (ltn hn rfl) rfl) ?_
    refine jl rfl rfl (ltn hn rfl) (pure_move rfl rfl) ?_
    refine jl_o rfl (op_append_m SlT.slk rfl rfl (ltn hn rfl) rfl rfl (src_sl_m rfl) (by first | omega | (simp only [List.length_append, List.length_cons, List.length_nil, List.length_take, List.length_drop]; omega)) (by first | omega | (simp only [List.length_append, List.length_cons, List.length_nil, List.length_take, List.length_drop]; omega))) ?_
    refine jl rfl rfl (ltn hn rfl) (pure_assign rfl rfl) ?_
    refine JL_nil ?_
    refine J_ret ?_
    exact Fin_one rfl (Le.trans (Le_ren C _ 5 0 rfl rfl (fun _ => hfx _)) (Le_sub C _ _ ⟨rfl, trivial⟩ ⟨rfl, trivial⟩ rfl rfl))
end Go.Proofs.YtmiijpobhajfmaaGreat.J
namespace Go.Proofs.YtmiijpobhajfmaaGreat.J
open Go Go.RowKit
set_option linter.unusedVariables false
set_option linter.unusedSimpArgs false

def setW (set : Int) : List Int := (ints 8).filter (bitT set)
theorem min_x {x : Nat} (h : x ≤ 8) : min ((x : Int)).toNat (IntKind.bits .i64) = x := by
  have : IntKind.bits .i64 = 64 := rfl
  rw [this]
  omega
theorem div_lt {s : Int} {x : Nat} (h0 : 0 ≤ s) (h : s / 2 ^ x = 0) : s < 2 ^ x := by
  have hp : (0 : Int) < 2 ^ x := Int.pow_pos (by omega)
  have h1 := Int.emod_add_mul_ediv s (2 ^ x)
  rw [h, Int.mul_zero, Int.add_zero] at h1
  have h2 := Int.emod_lt_of_pos s hp
  omega
theorem pow_mono {x y : Nat} (h : x ≤ y) : (2 : Int) ^ x ≤ 2 ^ y := by
  have h1 : (2 : Nat) ^ x ≤ 2 ^ y := Nat.pow_le_pow_right (by omega) h
  have e1 : ((2 ^ x : Nat) : Int) = (2 : Int) ^ x := by simp
  have e2 : ((2 ^ y : Nat) : Int) = (2 : Int) ^ y := by simp
  omega
theorem bit_out {s : Int} {x y : Nat} (h0 : 0 ≤ s) (h : s / 2 ^ x = 0) (hxy : x ≤ y) (hy : y ≤ 8) : bitT s (y : Int) = false := by
  have h1 := div_lt h0 h
  have h2 : s < 2 ^ y := Int.lt_of_lt_of_le h1 (pow_mono hxy)
  unfold bitT
  rw [min_x hy, Int.ediv_eq_zero_of_lt h0 h2]
  rfl
theorem set_end {s : Int} {x : Nat} (h0 : 0 ≤ s) (h : s / 2 ^ x = 0) : ∀ m, x ≤ m → m ≤ 8 → (ints x).filter (bitT s) = (ints m).filter (bitT s)
  | 0, hm, _ => by
    obtain rfl : x = 0 := by omega
    rfl
  | m + 1, hm, h8 => by
    by_cases e : x = m + 1
    · rw [e]
    · rw [ints_succ, List.filter_append, set_end h0 h m (by omega) (by omega)]
      simp [bit_out h0 h (show x ≤ m by omega) (by omega)]
theorem div8 {s : Int} {x : Nat} (h0 : 0 ≤ s ∧ s < 256) (h : 8 ≤ x) : s / 2 ^ x = 0 := by
  have := pow_mono h
  exact Int.ediv_eq_zero_of_lt h0.1 (by have e : (2 : Int) ^ 8 = 256 := by rfl
                                        omega)

theorem SetOf_spec (set : Int) (hs : 0 ≤ set ∧ set < 256) : Spec Tryz.prog 55 [I set] (L (setW set)) [] := by
  refine Spec.intro (c := _) Tryz.func55 rfl (Nat.le_of_ble_eq_true rfl) (fun C hC hfx => ?_)
  have hn : C.n = 21 := hC
  refine (show J _ _ _ _ (⟨[(0, I set)], []⟩ : AS) from ?_)
  refine J_seq ?_
  refine J_region ?_
  refine jl rfl rfl (ltn hn rfl) (pure_assign rfl rfl) ?_
  refine JL_nil ?_
  refine J_seq ?_
  refine J_region ?_
  refine jl rfl rfl (ltn hn rfl) (pure_assign rfl rfl) ?_
  refine JL_nil ?_
  refine J_seq ?_
  refine J_seq ?_
  refine J_le (Le_adopt C _ 3 900 (.leaf 3 1 []) rfl rfl (.inl ⟨_, _, rfl⟩)) ?_
  refine J_region ?_
  refine jl rfl rfl (ltn hn rfl) (pure_assign rfl rfl) ?_
  refine JL_nil ?_
  refine J_block ?_
  refine J_loop (X := Nat) (fun x => ⟨[(0, I set), (3, .own 900 []), (4, I (x : Nat))], [(900, Ow 3 1 cI ((ints x).filter (bitT set)))]⟩) (fun x => x ≤ 8) (fun x => 8 - x) 0 ?_ ?_ ?_
  · omega
  ·
    refine Le_sub C _ _ ⟨rfl, ⟨rfl, ⟨rfl, trivial⟩⟩⟩ ⟨rfl, trivial⟩ rfl rfl
  ·
    intro x hx
    refine J_seq ?_
    refine J_seq ?_
    refine J_region ?_
    refine jl rfl rfl (ltn hn rfl) (pure_move rfl rfl) ?_
    refine jl rfl rfl (ltn hn rfl) (pure_move rfl rfl) ?_
    refine jl rfl rfl (ltn hn rfl) (p_shr rfl rfl rfl (by omega)) ?_
    refine jl rfl rfl (ltn hn rfl) (pure_neq rfl rfl rfl) ?_
    refine JL_nil ?_
    refine J_cond_p rfl (fun h1 => ?_) (fun h1 => ?_)
    ·
      refine J_skip ?_
      refine J_seq ?_
      refine J_block ?_
      refine J_seq ?_
      refine J_region ?_
      refine jl rfl rfl (ltn hn rfl) (pure_move rfl rfl) ?_
      refine jl rfl rfl (ltn hn rfl) (pure_move rfl rfl) ?_
      refine jl rfl rfl (ltn hn rfl) (p_shr rfl rfl rfl (by omega)) ?_
      refine jl rfl rfl (ltn hn rfl) (p_bits rfl (by simp) rfl rfl rfl) ?_
      refine jl rfl rfl (ltn hn rfl) (pure_eql rfl rfl rfl) ?_
      refine JL_nil ?_
      refine J_cond_p rfl (fun h2 => ?_) (fun h2 => ?_)
      ·
        refine J_region ?_
        refine jl rfl rfl (ltn hn rfl) (pure_move rfl rfl) ?_
        refine jl rfl rfl (ltn hn rfl) (pure_move rfl rfl) ?_
        refine jl_o rfl (@op_lit1 _ _ _ _ _ cI _ _ _ _ _ _ _ SlT.slk rfl rfl (ltn hn rfl) rfl rfl rfl rfl rfl) ?_
        refine jl_o rfl (op_append_m SlT.slk rfl rfl (ltn hn rfl) rfl rfl (src_own_m rfl rfl) (by have hf := filter_len (ints x) (bitT set); rw [ints_length] at hf; simp only [List.length_cons, List.length_nil]; omega) (by have hf := filter_len (ints x) (bitT set); rw [ints_length] at hf; simp only [List.length_cons, List.length_nil]; omega)) ?_
        refine jl rfl rfl (ltn hn rfl) (pure_assign rfl rfl) ?_
        refine JL_nil ?_
        refine J_region ?_
        refine jl rfl rfl (ltn hn rfl) (pure_move rfl rfl) ?_
        refine jl rfl rfl (ltn hn rfl) (pure_add rfl rfl rfl (by omega)) ?_
        refine jl rfl rfl (ltn hn rfl) (pure_assign rfl rfl) ?_
        refine JL_nil ?_
        have hx8 : x < 8 := by
          rcases Nat.lt_or_ge x 8 with h | h
          · exact h
          · exact absurd (by rw [min_x hx]; exact div8 hs h) h1
        refine ⟨x + 1, ?_, ?_, ?_⟩
        · omega
        · omega
        ·
          refine Le_sub C _ _ ⟨rfl, ⟨rfl, ⟨(eqv rfl (vi (by omega))), trivial⟩⟩⟩ ⟨(eqv rfl (by rw [ints_succ, filt_t (by simpa [bitT] using h2)])), trivial⟩ rfl rfl
      ·
        refine J_skip ?_
        refine J_region ?_
        refine jl rfl rfl (ltn hn rfl) (pure_move rfl rfl) ?_
        refine jl rfl rfl (ltn hn rfl) (pure_add rfl rfl rfl (by omega)) ?_
        refine jl rfl rfl (ltn hn rfl) (pure_assign rfl rfl) ?_
        refine JL_nil ?_
        have hx8 : x < 8 := by
          rcases Nat.lt_or_ge x 8 with h | h
          · exact h
          · exact absurd (by rw [min_x hx]; exact div8 hs h) h1
        refine ⟨x + 1, ?_, ?_, ?_⟩
        · omega
        · omega
        ·
          refine Le_sub C _ _ ⟨rfl, ⟨rfl, ⟨(eqv rfl (vi (by omega))), trivial⟩⟩⟩ ⟨(eqv rfl (by rw [ints_succ, ← filt_f (by simpa [bitT] using h2)])), trivial⟩ rfl rfl
    ·
      refine J_exit ?_
      refine J_seq ?_
      refine J_region ?_
      refine jl rfl rfl (ltn hn rfl) (pure_move rfl rfl) ?_
      refine jl rfl rfl (ltn hn rfl) (pure_assign rfl rfl) ?_
      refine JL_nil ?_
      refine J_ret ?_
      exact Fin_one rfl (Le.trans (Le_frz 900 rfl rfl) (Le_one rfl (congrArg L (by rw [min_x hx] at h1; exact set_end hs.1 (Decidable.not_not.1 h1) 8 hx (Nat.le_refl _))) rfl))
end Go.Proofs.YtmiijpobhajfmaaGreat.J
namespace Go.Proofs.YtmiijpobhajfmaaGreat.J
open Go Go.RowKit
set_option linter.unusedVariables false
set_option linter.unusedSimpArgs false

theorem Lists_spec (n k : Nat) (hn8 : n ≤ 8) (hk : k ≤ 3) : Spec Tryz.prog 134 [I (n : Int), I (k : Int)] (LL (cfgL n k)) [] := by
  refine Spec.intro (c := _) Tryz.func134 rfl (Nat.le_of_ble_eq_true rfl) (fun C hC hfx => ?_)
  have hn : C.n = 48 := hC
  refine (show J _ _ _ _ (⟨[(0, I (n : Int)), (1, I (k : Int))], []⟩ : AS) from ?_)
  refine J_seq ?_
  refine J_region ?_
  refine jl rfl rfl (ltn hn rfl) (pure_assign rfl rfl) ?_
  refine JL_nil ?_
  refine J_seq ?_
  refine J_region ?_
  refine jl_o rfl (@op_lit_nil _ _ _ _ _ _ _ _ _ SlT.slk rfl rfl (ltn hn rfl) rfl rfl) ?_
  refine jl rfl rfl (ltn hn rfl) (pure_assign rfl rfl) ?_
  refine JL_nil ?_
  refine J_seq ?_
  refine J_seq ?_
  refine J_region ?_
  refine jl rfl rfl (ltn hn rfl) (pure_move rfl rfl) ?_
  refine jl rfl rfl (ltn hn rfl) (pure_move rfl rfl) ?_
  refine JL_nil ?_
  refine J_block ?_
  refine J_le (Le_frz 11 rfl rfl) ?_
  refine J_loop (X := Nat) (fun i => ⟨[(0, I (n : Int)), (5, LL (cfgL n i)), (12, I (k : Int)), (13, I (i : Nat))], []⟩) (fun i => i ≤ k) (fun i => k - i) 0 ?_ ?_ ?_
  · omega
  ·
    refine Le_sub C _ _ ⟨rfl, ⟨rfl, ⟨rfl, ⟨rfl, trivial⟩⟩⟩⟩ trivial rfl rfl
  ·
    intro i hi
    refine J_seq ?_
    refine J_region ?_
    refine jl rfl rfl (ltn hn rfl) (pure_lss rfl rfl rfl) ?_
    refine JL_nil ?_
    refine J_seq ?_
    refine J_cond_p rfl (fun h1 => ?_) (fun h1 => ?_)
    ·
      refine J_skip ?_
      refine J_seq ?_
      refine J_block ?_
      refine J_seq ?_
      refine J_region ?_
      refine jl rfl rfl (ltn hn rfl) (pure_assign rfl rfl) ?_
      refine JL_nil ?_
      refine J_seq ?_
      refine J_seq ?_
      refine J_le (Le_adopt C _ 6 900 (.leaf 37 1 []) rfl rfl (.inl ⟨_, _, rfl⟩)) ?_
      refine J_region ?_
      refine jl rfl rfl (ltn hn rfl) (pure_move rfl rfl) ?_
      refine jl rfl rfl (ltn hn rfl) (p_len_m rfl rfl) ?_
      refine jl rfl rfl (ltn hn rfl) (pure_move rfl rfl) ?_
      refine JL_nil ?_
      refine J_block ?_
      have hcl := cfg_len3 hn8 (i := i) (by omega)
      refine J_loop (X := Nat) (fun j => ⟨[(0, I (n : Int)), (6, .own 900 []), (12, I (k : Int)), (13, I (i : Nat)), (15, LL (cfgL n i)), (16, I ((cfgL n i).length : Int)), (17, I (j : Nat))], [(900, Ow 37 1 cL (((cfgL n i).take j).flatMap (extL n i)))]⟩) (fun j => j ≤ (cfgL n i).length) (fun j => (cfgL n i).length - j) 0 ?_ ?_ ?_
      · omega
      ·
        refine Le_sub C _ _ ⟨rfl, ⟨rfl, ⟨rfl, ⟨rfl, ⟨rfl, ⟨rfl, ⟨rfl, trivial⟩⟩⟩⟩⟩⟩⟩ ⟨rfl, trivial⟩ rfl rfl
      ·
        intro j hj
        refine J_seq ?_
        refine J_region ?_
        refine jl rfl rfl (ltn hn rfl) (pure_lss rfl rfl rfl) ?_
        refine JL_nil ?_
        refine J_seq ?_
        refine J_cond_p rfl (fun h2 => ?_) (fun h2 => ?_)
        ·
          refine J_skip ?_
          refine J_seq ?_
          refine J_block ?_
          refine J_seq ?_
          refine J_region ?_
          refine jl rfl rfl (ltn hn rfl) (p_idx rfl rfl rfl (by omega) (mget (by omega))) ?_
          refine jl rfl rfl (ltn hn rfl) (p_ld rfl rfl rfl) ?_
          refine jl rfl rfl (ltn hn rfl) (pure_assign rfl rfl) ?_
          refine JL_nil ?_
          refine J_seq ?_
          refine J_region ?_
          refine jl rfl rfl (ltn hn rfl) (pure_assign rfl rfl) ?_
          refine JL_nil ?_
          refine J_seq ?_
          refine J_seq ?_
          refine J_region ?_
          refine jl rfl rfl (ltn hn rfl) (pure_move rfl rfl) ?_
          refine jl rfl rfl (ltn hn rfl) (p_len_m rfl rfl) ?_
          refine jl rfl rfl (ltn hn rfl) (pure_gtr rfl rfl rfl) ?_
          refine JL_nil ?_
          refine J_cond_p rfl (fun h3 => ?_) (fun h3 => ?_)
          ·
            refine J_region ?_
            refine jl rfl rfl (ltn hn rfl) (pure_move rfl rfl) ?_
            refine jl rfl rfl (ltn hn rfl) (pure_move rfl rfl) ?_
            refine jl rfl rfl (ltn hn rfl) (p_len_m rfl rfl) ?_
            refine jl rfl rfl (ltn hn rfl) (pure_sub rfl rfl rfl (by have hm := cfg_mem n i _ (gi_mem (l := cfgL n i) (i := j) (by omega)); omega)) ?_
            refine jl rfl rfl (ltn hn rfl) (p_idx rfl rfl rfl (by have hm := cfg_mem n i _ (gi_mem (l := cfgL n i) (i := j) (by omega)); omega) (mget (by have hm := cfg_mem n i _ (gi_mem (l := cfgL n i) (i := j) (by omega)); omega))) ?_
            refine jl rfl rfl (ltn hn rfl) (p_ld rfl rfl rfl) ?_
            refine jl rfl rfl (ltn hn rfl) (pure_assign rfl rfl) ?_
            refine JL_nil ?_
            refine J_seq ?_
            refine J_region ?_
            refine jl rfl rfl (ltn hn rfl) (pure_move rfl rfl) ?_
            refine jl rfl rfl (ltn hn rfl) (pure_assign rfl rfl) ?_
            refine JL_nil ?_
            refine J_block ?_
            have hb := cfg_start (gi_mem (l := cfgL n i) (i := j) (by omega))
            have hm := cfg_mem n i _ (gi_mem (l := cfgL n i) (i := j) (by omega))
            refine J_loop (X := Nat) (fun q => ⟨[(0, I (n : Int)), (6, .own 900 []), (8, L (gi (cfgL n i) j)), (12, I (k : Int)), (13, I (i : Nat)), (15, LL (cfgL n i)), (16, I ((cfgL n i).length : Int)), (17, I (j : Nat)), (10, I ((start i (gi (cfgL n i) j)) + (q : Nat)))], [(900, Ow 37 1 cL (((cfgL n i).take j).flatMap (extL n i) ++ ((span (start i (gi (cfgL n i) j)) n).take q).map (fun x => gi (cfgL n i) j ++ [x])))]⟩) (fun q => q ≤ n - (start i (gi (cfgL n i) j)).toNat) (fun q => n - (start i (gi (cfgL n i) j)).toNat - q) 0 ?_ ?_ ?_
            · omega
            ·
              refine Le_sub C _ _ ⟨rfl, ⟨rfl, ⟨rfl, ⟨rfl, ⟨rfl, ⟨rfl, ⟨rfl, ⟨rfl, ⟨(eqv rfl (vi (by have hm1 := hm.1; unfold start; first | (rw [if_pos (by omega), hm1]; omega) | (rw [if_neg (by omega)]; omega)))), trivial⟩⟩⟩⟩⟩⟩⟩⟩⟩ ⟨(eqv rfl (by simp)), trivial⟩ rfl rfl
            ·
              intro q hq
              refine J_seq ?_
              refine J_seq ?_
              refine J_region ?_
              refine jl rfl rfl (ltn hn rfl) (pure_move rfl rfl) ?_
              refine jl rfl rfl (ltn hn rfl) (pure_move rfl rfl) ?_
              refine jl rfl rfl (ltn hn rfl) (pure_lss rfl rfl rfl) ?_
              refine JL_nil ?_
              refine J_cond_p rfl (fun h4 => ?_) (fun h4 => ?_)
              ·
                refine J_skip ?_
                refine J_seq ?_
                refine J_block ?_
                refine J_region ?_
                refine jl rfl rfl (ltn hn rfl) (pure_move rfl rfl) ?_
                refine jl rfl rfl (ltn hn rfl) (pure_move rfl rfl) ?_
                refine jl_o rfl (@op_call _ _ _ _ _ _ [.tmp 37] _ _ _ _ _ (Clone_spec _ (by have hm := cfg_mem n i _ (gi_mem (l := cfgL n i) (i := j) (by omega)); omega)) rfl Tryz.func85 rfl rfl rfl (ltn hn rfl) ⟨rfl, rfl, trivial⟩ rfl rfl) ?_
                refine jl rfl rfl (ltn hn rfl) (pure_move rfl rfl) ?_
                refine jl_o rfl (@op_lit1 _ _ _ _ _ cI _ _ _ _ _ _ _ SlT.slk rfl rfl (ltn hn rfl) rfl rfl rfl rfl rfl) ?_
                refine jl_o rfl (op_append_m SlT.slk rfl rfl (ltn hn rfl) rfl rfl (src_own_m rfl rfl) (by have hm := cfg_mem n i _ (gi_mem (l := cfgL n i) (i := j) (by omega)); simp only [List.length_append, List.length_cons, List.length_nil]; omega) (by have hm := cfg_mem n i _ (gi_mem (l := cfgL n i) (i := j) (by omega)); simp only [List.length_append, List.length_cons, List.length_nil]; omega)) ?_
                refine JL_le (Le_frz 38 rfl rfl) ?_
                refine jl_o rfl (@op_lit1 _ _ _ _ _ cL _ _ _ _ _ _ _ SlT.slk rfl rfl (ltn hn rfl) rfl rfl rfl rfl rfl) ?_
                refine jl_o rfl (op_append_m SlT.slk rfl rfl (ltn hn rfl) rfl rfl (src_own_m rfl rfl) (by have hf := ext_flat hn8 i j (cfgL n i); have hcl := cfg_len3 hn8 (i := i) (by omega); simp only [List.length_append, List.length_cons, List.length_nil, List.length_map, List.length_take, span_len]; omega) (by have hf := ext_flat hn8 i j (cfgL n i); have hcl := cfg_len3 hn8 (i := i) (by omega); simp only [List.length_append, List.length_cons, List.length_nil, List.length_map, List.length_take, span_len]; omega)) ?_
                refine jl rfl rfl (ltn hn rfl) (pure_assign rfl rfl) ?_
                refine JL_nil ?_
                refine J_region ?_
                refine jl rfl rfl (ltn hn rfl) (pure_move rfl rfl) ?_
                refine jl rfl rfl (ltn hn rfl) (pure_add rfl rfl rfl (by have hb := cfg_start (gi_mem (l := cfgL n i) (i := j) (by omega)); omega)) ?_
                refine jl rfl rfl (ltn hn rfl) (pure_assign rfl rfl) ?_
                refine JL_nil ?_
                refine ⟨q + 1, ?_, ?_, ?_⟩
                · omega
                · omega
                ·
                  refine Le_sub C _ _ ⟨rfl, ⟨rfl, ⟨rfl, ⟨rfl, ⟨rfl, ⟨rfl, ⟨rfl, ⟨rfl, ⟨(eqv rfl (vi (by omega))), trivial⟩⟩⟩⟩⟩⟩⟩⟩⟩ ⟨(eqv rfl (by rw [take_gi (by rw [span_len]; omega), List.map_append, span_gi (by omega), List.append_assoc]; rfl)), trivial⟩ rfl rfl
              ·
                refine J_exit ?_
                refine J_region ?_
                refine jl rfl rfl (ltn hn rfl) (pure_add rfl rfl rfl (by omega)) ?_
                refine jl rfl rfl (ltn hn rfl) (pure_move rfl rfl) ?_
                refine JL_nil ?_
                have hb := cfg_start (gi_mem (l := cfgL n i) (i := j) (by omega))
                refine ⟨j + 1, ?_, ?_, ?_⟩
                · omega
                · omega
                ·
                  refine Le_sub C _ _ ⟨rfl, ⟨rfl, ⟨rfl, ⟨rfl, ⟨rfl, ⟨rfl, ⟨(eqv rfl (vi (by omega))), trivial⟩⟩⟩⟩⟩⟩⟩ ⟨(eqv rfl (by rw [flat_step h2, List.take_of_length_le (i := q) (by rw [span_len]; omega)]; rfl)), trivial⟩ rfl rfl
          ·
            refine J_skip ?_
            refine J_seq ?_
            refine J_region ?_
            refine jl rfl rfl (ltn hn rfl) (pure_move rfl rfl) ?_
            refine jl rfl rfl (ltn hn rfl) (pure_assign rfl rfl) ?_
            refine JL_nil ?_
            refine J_block ?_
            have hb := cfg_start (gi_mem (l := cfgL n i) (i := j) (by omega))
            have hm := cfg_mem n i _ (gi_mem (l := cfgL n i) (i := j) (by omega))
            refine J_loop (X := Nat) (fun q => ⟨[(0, I (n : Int)), (6, .own 900 []), (8, L (gi (cfgL n i) j)), (12, I (k : Int)), (13, I (i : Nat)), (15, LL (cfgL n i)), (16, I ((cfgL n i).length : Int)), (17, I (j : Nat)), (10, I ((start i (gi (cfgL n i) j)) + (q : Nat)))], [(900, Ow 37 1 cL (((cfgL n i).take j).flatMap (extL n i) ++ ((span (start i (gi (cfgL n i) j)) n).take q).map (fun x => gi (cfgL n i) j ++ [x])))]⟩) (fun q => q ≤ n - (start i (gi (cfgL n i) j)).toNat) (fun q => n - (start i (gi (cfgL n i) j)).toNat - q) 0 ?_ ?_ ?_
            · omega
            ·
              refine Le_sub C _ _ ⟨rfl, ⟨rfl, ⟨rfl, ⟨rfl, ⟨rfl, ⟨rfl, ⟨rfl, ⟨rfl, ⟨(eqv rfl (vi (by have hm1 := hm.1; unfold start; first | (rw [if_pos (by omega), hm1]; omega) | (rw [if_neg (by omega)]; omega)))), trivial⟩⟩⟩⟩⟩⟩⟩⟩⟩ ⟨(eqv rfl (by simp)), trivial⟩ rfl rfl
            ·
              intro q hq
              refine J_seq ?_
              refine J_seq ?_
              refine J_region ?_
              refine jl rfl rfl (ltn hn rfl) (pure_move rfl rfl) ?_
              refine jl rfl rfl (ltn hn rfl) (pure_move rfl rfl) ?_
              refine jl rfl rfl (ltn hn rfl) (pure_lss rfl rfl rfl) ?_
              refine JL_nil ?_
              refine J_cond_p rfl (fun h5 => ?_) (fun h5 => ?_)
              ·
                refine J_skip ?_
                refine J_seq ?_
                refine J_block ?_
                refine J_region ?_
                refine jl rfl rfl (ltn hn rfl) (pure_move rfl rfl) ?_
                refine jl rfl rfl (ltn hn rfl) (pure_move rfl rfl) ?_
                refine jl_o rfl (@op_call _ _ _ _ _ _ [.tmp 37] _ _ _ _ _ (Clone_spec _ (by have hm := cfg_mem n i _ (gi_mem (l := cfgL n i) (i := j) (by omega)); omega)) rfl Tryz.func85 rfl rfl rfl (ltn hn rfl) ⟨rfl, rfl, trivial⟩ rfl rfl) ?_
                refine jl rfl rfl (ltn hn rfl) (pure_move rfl rfl) ?_
                refine jl_o rfl (@op_lit1 _ _ _ _ _ cI _ _ _ _ _ _ _ SlT.slk rfl rfl (ltn hn rfl) rfl rfl rfl rfl rfl) ?_
                refine jl_o rfl (op_append_m SlT.slk rfl rfl (ltn hn rfl) rfl rfl (src_own_m rfl rfl) (by have hm := cfg_mem n i _ (gi_mem (l := cfgL n i) (i := j) (by omega)); simp only [List.length_append, List.length_cons, List.length_nil]; omega) (by have hm := cfg_mem n i _ (gi_mem (l := cfgL n i) (i := j) (by omega)); simp only [List.length_append, List.length_cons, List.length_nil]; omega)) ?_
                refine JL_le (Le_frz 38 rfl rfl) ?_
                refine jl_o rfl (@op_lit1 _ _ _ _ _ cL _ _ _ _ _ _ _ SlT.slk rfl rfl (ltn hn rfl) rfl rfl rfl rfl rfl) ?_
                refine jl_o rfl (op_append_m SlT.slk rfl rfl (ltn hn rfl) rfl rfl (src_own_m rfl rfl) (by have hf := ext_flat hn8 i j (cfgL n i); have hcl := cfg_len3 hn8 (i := i) (by omega); simp only [List.length_append, List.length_cons, List.length_nil, List.length_map, List.length_take, span_len]; omega) (by have hf := ext_flat hn8 i j (cfgL n i); have hcl := cfg_len3 hn8 (i := i) (by omega); simp only [List.length_append, List.length_cons, List.length_nil, List.length_map, List.length_take, span_len]; omega)) ?_
                refine jl rfl rfl (ltn hn rfl) (pure_assign rfl rfl) ?_
                refine JL_nil ?_
                refine J_region ?_
                refine jl rfl rfl (ltn hn rfl) (pure_move rfl rfl) ?_
                refine jl rfl rfl (ltn hn rfl) (pure_add rfl rfl rfl (by have hb := cfg_start (gi_mem (l := cfgL n i) (i := j) (by omega)); omega)) ?_
                refine jl rfl rfl (ltn hn rfl) (pure_assign rfl rfl) ?_
                refine JL_nil ?_
                refine ⟨q + 1, ?_, ?_, ?_⟩
                · omega
                · omega
                ·
                  refine Le_sub C _ _ ⟨rfl, ⟨rfl, ⟨rfl, ⟨rfl, ⟨rfl, ⟨rfl, ⟨rfl, ⟨rfl, ⟨(eqv rfl (vi (by omega))), trivial⟩⟩⟩⟩⟩⟩⟩⟩⟩ ⟨(eqv rfl (by rw [take_gi (by rw [span_len]; omega), List.map_append, span_gi (by omega), List.append_assoc]; rfl)), trivial⟩ rfl rfl
              ·
                refine J_exit ?_
                refine J_region ?_
                refine jl rfl rfl (ltn hn rfl) (pure_add rfl rfl rfl (by omega)) ?_
                refine jl rfl rfl (ltn hn rfl) (pure_move rfl rfl) ?_
                refine JL_nil ?_
                have hb := cfg_start (gi_mem (l := cfgL n i) (i := j) (by omega))
                refine ⟨j + 1, ?_, ?_, ?_⟩
                · omega
                · omega
                ·
                  refine Le_sub C _ _ ⟨rfl, ⟨rfl, ⟨rfl, ⟨rfl, ⟨rfl, ⟨rfl, ⟨(eqv rfl (vi (by omega))), trivial⟩⟩⟩⟩⟩⟩⟩ ⟨(eqv rfl (by rw [flat_step h2, List.take_of_length_le (i := q) (by rw [span_len]; omega)]; rfl)), trivial⟩ rfl rfl
        ·
          refine J_exit ?_
          refine J_region ?_
          refine jl rfl rfl (ltn hn rfl) (pure_move rfl rfl) ?_
          refine jl rfl rfl (ltn hn rfl) (pure_assign rfl rfl) ?_
          refine JL_nil ?_
          refine J_region ?_
          refine jl rfl rfl (ltn hn rfl) (pure_add rfl rfl rfl (by omega)) ?_
          refine jl rfl rfl (ltn hn rfl) (pure_move rfl rfl) ?_
          refine JL_nil ?_
          refine ⟨i + 1, ?_, ?_, ?_⟩
          · omega
          · omega
          ·
            refine Le.trans (Le_frz 900 rfl rfl) ?_
            refine Le_sub C _ _ ⟨rfl, ⟨(eqv rfl (congrArg LL (by rw [take_all (l := cfgL n i) (i := j) (by omega)]; rfl))), ⟨rfl, ⟨(eqv rfl (vi (by omega))), trivial⟩⟩⟩⟩ trivial rfl rfl
    ·
      refine J_exit ?_
      refine J_seq ?_
      refine J_region ?_
      refine jl rfl rfl (ltn hn rfl) (pure_move rfl rfl) ?_
      refine jl rfl rfl (ltn hn rfl) (pure_assign rfl rfl) ?_
      refine JL_nil ?_
      refine J_ret ?_
      obtain rfl : i = k := by omega
      exact Fin_one rfl (Le_one rfl rfl rfl)
end Go.Proofs.YtmiijpobhajfmaaGreat.J
namespace Go.Proofs.YtmiijpobhajfmaaGreat.J
open Go Go.RowKit
set_option linter.unusedVariables false
set_option linter.unusedSimpArgs false

def setOr (w : List Int) (a b : Int) : List Int := w.set a.toNat (Go.bits .or .i64 (gi w a) (bit1 b))
def netStep (w : List Int) (e : Int × Int) : List Int := setOr (setOr w e.1 e.2) e.2 e.1
def netW (n : Nat) (es : List (Int × Int)) : List Int := es.foldl netStep (List.replicate n 0)
theorem setOr_len (w : List Int) (a b : Int) : (setOr w a b).length = w.length := by simp [setOr]
theorem netW_len (n : Nat) (es : List (Int × Int)) : (netW n es).length = n := by
  unfold netW
  generalize hw : List.replicate n (0 : Int) = w
  have h0 : w.length = n := by rw [← hw]; simp
  clear hw
  induction es generalizing w with
  | nil => exact h0
  | cons e r ih => rw [List.foldl_cons]; exact ih _ (by simp [netStep, setOr_len, h0])
theorem good_edge {n : Int} {es : List (Int × Int)} (h : goodG n es = true) {i : Nat} (hi : (i : Int) < es.length) : 0 ≤ (gi es i).1 ∧ (gi es i).1 < n ∧ 0 ≤ (gi es i).2 ∧ (gi es i).2 < n ∧ 0 ≤ n ∧ n ≤ 8 := by
  simp only [goodG, Bool.and_eq_true, decide_eq_true_eq, List.all_eq_true] at h
  have h1 := h.2 i (by simp; omega)
  simp only [edgeOK, Bool.and_eq_true, decide_eq_true_eq] at h1
  omega

theorem NetOf_spec (n : Nat) (es : List (Int × Int)) (hl : es.length < 2^40) (hn8 : n ≤ 8) (hG : goodG (n : Int) es = true) : Spec Tryz.prog 53 [Gr (n : Int) es] (.agg [L (netW n es)]) [] := by
  refine Spec.intro (c := _) Tryz.func53 rfl (Nat.le_of_ble_eq_true rfl) (fun C hC hfx => ?_)
  have hn : C.n = 41 := hC
  refine (show J _ _ _ _ (⟨[(0, Gr (n : Int) es)], []⟩ : AS) from ?_)
  refine J_seq ?_
  refine J_region ?_
  refine jl_o rfl (op_box_agg rfl rfl (ltn hn rfl) rfl rfl rfl) ?_
  refine jl_o rfl (@op_alloc _ _ _ _ _ _ _ rfl ZrT.out rfl rfl (ltn hn rfl) rfl) ?_
  refine JL_nil ?_
  refine J_seq ?_
  refine J_region ?_
  refine jl rfl rfl (ltn hn rfl) (p_fld_b rfl rfl rfl) ?_
  refine jl rfl rfl (ltn hn rfl) (p_ld_b rfl rfl rfl rfl) ?_
  refine jl_o rfl (@op_make_m _ _ _ _ _ cI 0 _ _ _ _ _ _ _ _ _ SlT.slk ZrT.out rfl rfl rfl (ltn hn rfl) rfl rfl rfl (by omega) (by omega) (by omega)) ?_
  refine jl rfl rfl (ltn hn rfl) (pure_build (l := [(0, .tmp 8)]) rfl BdT.out (.one rfl rfl .nil) rfl) ?_
  refine jl_o rfl (@op_alloc _ _ _ _ _ _ _ rfl ZrT.out rfl rfl (ltn hn rfl) rfl) ?_
  refine jl_o rfl (op_store_box_agg rfl rfl (by exact SzT.out) rfl rfl (by exact Nat.le_of_ble_eq_true rfl) rfl rfl) ?_
  refine JL_nil ?_
  refine J_seq ?_
  refine J_seq ?_
  refine J_region ?_
  refine jl rfl rfl (ltn hn rfl) (p_fld_b rfl rfl rfl) ?_
  refine jl rfl rfl (ltn hn rfl) (p_ld_b rfl rfl rfl rfl) ?_
  refine jl rfl rfl (ltn hn rfl) (p_len_m rfl rfl) ?_
  refine jl rfl rfl (ltn hn rfl) (pure_move rfl rfl) ?_
  refine JL_nil ?_
  refine J_block ?_
  refine J_loop (X := Nat) (fun i => ⟨[(2, .box 2 0), (3, .box 3 0), (11, LP es), (12, I (es.length : Int)), (13, I (i : Nat))], [(2, .box 62 [Nil]), (3, .box 62 [.own 8 []]), (8, Ow 3 1 cI (netW n (es.take i)))]⟩) (fun i => i ≤ es.length) (fun i => es.length - i) 0 ?_ ?_ ?_
  · omega
  ·
    refine Le_sub C _ _ ⟨rfl, ⟨rfl, ⟨rfl, ⟨rfl, ⟨rfl, trivial⟩⟩⟩⟩⟩ ⟨rfl, ⟨rfl, ⟨(eqv rfl (by rw [Int.toNat_natCast]; rfl)), trivial⟩⟩⟩ rfl rfl
  ·
    intro i hi
    refine J_seq ?_
    refine J_region ?_
    refine jl rfl rfl (ltn hn rfl) (pure_lss rfl rfl rfl) ?_
    refine JL_nil ?_
    refine J_seq ?_
    refine J_cond_p rfl (fun h1 => ?_) (fun h1 => ?_)
    ·
      refine J_skip ?_
      refine J_seq ?_
      refine J_block ?_
      refine J_seq ?_
      refine J_region ?_
      refine jl rfl rfl (ltn hn rfl) (p_idx rfl rfl rfl (by omega) (mget (by omega))) ?_
      refine jl rfl rfl (ltn hn rfl) (p_ld_a rfl rfl (Nat.le_of_ble_eq_true rfl) rfl) ?_
      refine jl_o rfl (@op_alloc _ _ _ _ _ _ _ rfl ZrT.out rfl rfl (ltn hn rfl) rfl) ?_
      refine jl_o rfl (op_store_box_agg rfl rfl (by exact SzT.out) rfl rfl (by exact Nat.le_of_ble_eq_true rfl) rfl rfl) ?_
      refine JL_nil ?_
      refine J_seq ?_
      refine J_mixed [8] follows_mixed (by kernel_rfl) ?_
      refine JD1_read 0 rfl (by kernel_rfl) (by kernel_rfl) (by kernel_rfl) rfl rfl (ltn hn rfl) (p_fld_b rfl rfl rfl) rfl ?_
      refine JD1_read 1 rfl (by kernel_rfl) (by kernel_rfl) (by kernel_rfl) rfl rfl (ltn hn rfl) (p_ld_b rfl rfl rfl rfl) rfl ?_
      refine JD1_read 2 rfl (by kernel_rfl) (by kernel_rfl) (by kernel_rfl) rfl rfl (ltn hn rfl) (p_idx_ab rfl rfl rfl (by omega) (by omega) rfl) rfl ?_
      refine JD1_read 3 rfl (by kernel_rfl) (by kernel_rfl) (by kernel_rfl) rfl rfl (ltn hn rfl) (p_ld_b rfl rfl rfl rfl) rfl ?_
      refine JD1_read 4 rfl (by kernel_rfl) (by kernel_rfl) (by kernel_rfl) rfl rfl (ltn hn rfl) (p_idx_own_m rfl rfl rfl rfl (by have hg := good_edge hG (i := i) (by omega); have hwl := netW_len n (es.take i); omega) (by have hg := good_edge hG (i := i) (by omega); have hwl := netW_len n (es.take i); omega)) rfl ?_
      refine JD1_read 6 rfl (by kernel_rfl) (by kernel_rfl) (by kernel_rfl) rfl rfl (ltn hn rfl) (p_idx_ab rfl rfl rfl (by omega) (by omega) rfl) rfl ?_
      refine JD1_read 7 rfl (by kernel_rfl) (by kernel_rfl) (by kernel_rfl) rfl rfl (ltn hn rfl) (p_ld_b rfl rfl rfl rfl) rfl ?_
      refine JD1_read 8 rfl (by kernel_rfl) (by kernel_rfl) (by kernel_rfl) rfl rfl (ltn hn rfl) (p_shl rfl rfl rfl (by have hg := good_edge hG (i := i) (by omega); have hwl := netW_len n (es.take i); omega)) rfl ?_
      refine JD1_go ?_
      refine JD_only 5 rfl (by kernel_rfl) rfl (OpD.of_pure rfl (ltn hn rfl) (p_ld_o rfl rfl rfl rfl (mget (by have hg := good_edge hG (i := i) (by omega); have hwl := netW_len n (es.take i); omega)) rfl)) rfl ?_
      refine JD_still 9 rfl (by kernel_rfl) (by kernel_rfl) (by kernel_rfl) rfl rfl (ltn hn rfl) (p_bits rfl (by simp) rfl rfl rfl) ?_
      refine JD_still 10 rfl (by kernel_rfl) (by kernel_rfl) (by kernel_rfl) rfl rfl (ltn hn rfl) (p_idx_own_m rfl rfl rfl rfl (by have hg := good_edge hG (i := i) (by omega); have hwl := netW_len n (es.take i); omega) (by have hg := good_edge hG (i := i) (by omega); have hwl := netW_len n (es.take i); omega)) ?_
      refine JD_only 11 rfl (by kernel_rfl) rfl (@op_store_row_m _ _ _ _ _ cI _ _ _ _ _ _ _ _ _ SzT.out rfl rfl rfl rfl rfl rfl rfl rfl (fun _ => rfl) (by have hg := good_edge hG (i := i) (by omega); have hwl := netW_len n (es.take i); omega)) rfl ?_
      refine JD_done (by kernel_rfl) ?_
      refine J_mixed [8] follows_mixed (by kernel_rfl) ?_
      refine JD1_read 0 rfl (by kernel_rfl) (by kernel_rfl) (by kernel_rfl) rfl rfl (ltn hn rfl) (p_fld_b rfl rfl rfl) rfl ?_
      refine JD1_read 1 rfl (by kernel_rfl) (by kernel_rfl) (by kernel_rfl) rfl rfl (ltn hn rfl) (p_ld_b rfl rfl rfl rfl) rfl ?_
      refine JD1_read 2 rfl (by kernel_rfl) (by kernel_rfl) (by kernel_rfl) rfl rfl (ltn hn rfl) (p_idx_ab rfl rfl rfl (by omega) (by omega) rfl) rfl ?_
      refine JD1_read 3 rfl (by kernel_rfl) (by kernel_rfl) (by kernel_rfl) rfl rfl (ltn hn rfl) (p_ld_b rfl rfl rfl rfl) rfl ?_
      refine JD1_read 4 rfl (by kernel_rfl) (by kernel_rfl) (by kernel_rfl) rfl rfl (ltn hn rfl) (p_idx_own_m rfl rfl rfl rfl (by have hg := good_edge hG (i := i) (by omega); have hwl := netW_len n (es.take i); have hsl := setOr_len (netW n (es.take i)) (gi es i).1 (gi es i).2; (try rw [show List.length _ = List.length _ from hsl]); first | omega | (show _ < _; simp only [List.length_set]; omega)) (by have hg := good_edge hG (i := i) (by omega); have hwl := netW_len n (es.take i); have hsl := setOr_len (netW n (es.take i)) (gi es i).1 (gi es i).2; (try rw [show List.length _ = List.length _ from hsl]); first | omega | (show _ < _; simp only [List.length_set]; omega))) rfl ?_
      refine JD1_read 6 rfl (by kernel_rfl) (by kernel_rfl) (by kernel_rfl) rfl rfl (ltn hn rfl) (p_idx_ab rfl rfl rfl (by omega) (by omega) rfl) rfl ?_
      refine JD1_read 7 rfl (by kernel_rfl) (by kernel_rfl) (by kernel_rfl) rfl rfl (ltn hn rfl) (p_ld_b rfl rfl rfl rfl) rfl ?_
      refine JD1_read 8 rfl (by kernel_rfl) (by kernel_rfl) (by kernel_rfl) rfl rfl (ltn hn rfl) (p_shl rfl rfl rfl (by have hg := good_edge hG (i := i) (by omega); have hwl := netW_len n (es.take i); have hsl := setOr_len (netW n (es.take i)) (gi es i).1 (gi es i).2; omega)) rfl ?_
      refine JD1_go ?_
      refine JD_only 5 rfl (by kernel_rfl) rfl (OpD.of_pure rfl (ltn hn rfl) (p_ld_o rfl rfl rfl rfl (mget (by have hg := good_edge hG (i := i) (by omega); have hwl := netW_len n (es.take i); have hsl := setOr_len (netW n (es.take i)) (gi es i).1 (gi es i).2; first | omega | (simp only [List.length_set]; omega))) rfl)) rfl ?_
      refine JD_still 9 rfl (by kernel_rfl) (by kernel_rfl) (by kernel_rfl) rfl rfl (ltn hn rfl) (p_bits rfl (by simp) rfl rfl rfl) ?_
      refine JD_still 10 rfl (by kernel_rfl) (by kernel_rfl) (by kernel_rfl) rfl rfl (ltn hn rfl) (p_idx_own_m rfl rfl rfl rfl (by have hg := good_edge hG (i := i) (by omega); have hwl := netW_len n (es.take i); have hsl := setOr_len (netW n (es.take i)) (gi es i).1 (gi es i).2; first | omega | (simp only [List.length_set]; omega)) (by have hg := good_edge hG (i := i) (by omega); have hwl := netW_len n (es.take i); have hsl := setOr_len (netW n (es.take i)) (gi es i).1 (gi es i).2; first | omega | (simp only [List.length_set]; omega))) ?_
      refine JD_only 11 rfl (by kernel_rfl) rfl (@op_store_row_m _ _ _ _ _ cI _ _ _ _ _ _ _ _ _ SzT.out rfl rfl rfl rfl rfl rfl rfl rfl (fun _ => rfl) (by have hg := good_edge hG (i := i) (by omega); have hwl := netW_len n (es.take i); have hsl := setOr_len (netW n (es.take i)) (gi es i).1 (gi es i).2; first | omega | (simp only [List.length_set]; omega))) rfl ?_
      refine JD_done (by kernel_rfl) ?_
      refine J_region ?_
      refine jl rfl rfl (ltn hn rfl) (pure_add rfl rfl rfl (by omega)) ?_
      refine jl rfl rfl (ltn hn rfl) (pure_move rfl rfl) ?_
      refine JL_nil ?_
      refine ⟨i + 1, ?_, ?_, ?_⟩
      · omega
      · omega
      ·
        refine Le_sub C _ _ ⟨rfl, ⟨rfl, ⟨rfl, ⟨rfl, ⟨(eqv rfl (vi (by omega))), trivial⟩⟩⟩⟩⟩ ⟨rfl, ⟨rfl, ⟨(eqv rfl (by rw [take_gi (l := es) (by omega)]; unfold netW; rw [List.foldl_append]; rfl)), trivial⟩⟩⟩ rfl rfl
    ·
      refine J_exit ?_
      refine J_seq ?_
      refine J_region ?_
      refine jl rfl rfl (ltn hn rfl) (p_ld_ba rfl rfl rfl (Nat.le_of_ble_eq_true rfl) rfl) ?_
      refine jl_o rfl (op_store_box_agg rfl rfl (by exact SzT.out) rfl rfl (by exact Nat.le_of_ble_eq_true rfl) rfl rfl) ?_
      refine JL_nil ?_
      refine J_ret ?_
      exact Fin_cell (i := 2) rfl LdT.out rfl (Le.trans (Le_frz 8 rfl rfl) (Le_sub C _ _ ⟨rfl, trivial⟩ ⟨(eqv rfl (by rw [take_all h1]; rfl)), trivial⟩ rfl rfl)) rfl rfl rfl rfl
end Go.Proofs.YtmiijpobhajfmaaGreat.J
namespace Go.Proofs.YtmiijpobhajfmaaGreat.J
open Go Go.RowKit
set_option linter.unusedVariables false
set_option linter.unusedSimpArgs false

def szE (es : List (Int × Int)) (left : Int) : Int := if left - es.length < 0 then -1 else left - es.length
theorem pair_get {i : Nat} {a b : Int} (h : i < 2) : [I a, I b][i]? = some (I (if i = 0 then a else b)) := by
  rcases (by omega : i = 0 ∨ i = 1) with rfl | rfl <;> rfl

theorem SzE_spec (es : List (Int × Int)) (left : Int) (hl : 0 ≤ left ∧ left ≤ 2^40) : Spec Tryz.prog 46 [LP es, I left] (I (szE es left)) [] := by
  refine Spec.intro (c := _) Tryz.func46 rfl (Nat.le_of_ble_eq_true rfl) (fun C hC hfx => ?_)
  have hn : C.n = 12 := hC
  refine (show J _ _ _ _ (⟨[(0, LP es), (1, I left)], []⟩ : AS) from ?_)
  refine J_bd (t := 0) rfl (fun hbd => ?_)
  rw [List.length_map] at hbd
  unfold maxLen at hbd
  refine J_seq ?_
  refine J_region ?_
  refine jl rfl rfl (ltn hn rfl) (pure_assign rfl rfl) ?_
  refine JL_nil ?_
  refine J_seq ?_
  refine J_region ?_
  refine jl rfl rfl (ltn hn rfl) (pure_move rfl rfl) ?_
  refine jl rfl rfl (ltn hn rfl) (pure_move rfl rfl) ?_
  refine jl rfl rfl (ltn hn rfl) (p_len_m rfl rfl) ?_
  refine jl rfl rfl (ltn hn rfl) (pure_sub rfl rfl rfl (by omega)) ?_
  refine jl rfl rfl (ltn hn rfl) (pure_assign rfl rfl) ?_
  refine JL_nil ?_
  refine J_seq ?_
  refine J_seq ?_
  refine J_region ?_
  refine jl rfl rfl (ltn hn rfl) (pure_move rfl rfl) ?_
  refine jl rfl rfl (ltn hn rfl) (pure_lss rfl rfl rfl) ?_
  refine JL_nil ?_
  refine J_cond_p rfl (fun h1 => ?_) (fun h1 => ?_)
  ·
    refine J_seq ?_
    refine J_region ?_
    refine jl rfl rfl (ltn hn rfl) (pure_assign rfl rfl) ?_
    refine JL_nil ?_
    refine J_ret ?_
    exact Fin_one rfl (Le_one rfl (vi (by unfold szE; split <;> omega)) rfl)
  ·
    refine J_skip ?_
    refine J_seq ?_
    refine J_region ?_
    refine jl rfl rfl (ltn hn rfl) (pure_move rfl rfl) ?_
    refine jl rfl rfl (ltn hn rfl) (pure_assign rfl rfl) ?_
    refine JL_nil ?_
    refine J_ret ?_
    exact Fin_one rfl (Le_one rfl (vi (by unfold szE; split <;> omega)) rfl)
theorem SzG_spec (n : Int) (es : List (Int × Int)) (left : Int) (hl : 0 ≤ left ∧ left ≤ 2^40) : Spec Tryz.prog 13 [Gr n es, I left] (I (szE es left)) [] := by
  refine Spec.intro (c := _) Tryz.func13 rfl (Nat.le_of_ble_eq_true rfl) (fun C hC hfx => ?_)
  have hn : C.n = 12 := hC
  refine (show J _ _ _ _ (⟨[(0, Gr n es), (1, I left)], []⟩ : AS) from ?_)
  refine J_seq ?_
  refine J_region ?_
  refine jl_o rfl (op_box_agg rfl rfl (ltn hn rfl) rfl rfl rfl) ?_
  refine jl rfl rfl (ltn hn rfl) (pure_assign rfl rfl) ?_
  refine JL_nil ?_
  refine J_seq ?_
  refine J_region ?_
  refine jl rfl rfl (ltn hn rfl) (p_fld_b rfl rfl rfl) ?_
  refine jl rfl rfl (ltn hn rfl) (p_ld_b rfl rfl rfl rfl) ?_
  refine jl rfl rfl (ltn hn rfl) (pure_move rfl rfl) ?_
  refine jl_o rfl (@op_call _ _ _ _ _ _ [.tmp 6, .tmp 7] _ _ _ _ _ (SzE_spec _ _ (by omega)) rfl Tryz.func46 rfl rfl rfl (ltn hn rfl) ⟨rfl, rfl, ⟨rfl, rfl, trivial⟩⟩ rfl rfl) ?_
  refine jl rfl rfl (ltn hn rfl) (pure_assign rfl rfl) ?_
  refine JL_nil ?_
  refine J_seq ?_
  refine J_seq ?_
  refine J_region ?_
  refine jl rfl rfl (ltn hn rfl) (pure_move rfl rfl) ?_
  refine jl rfl rfl (ltn hn rfl) (pure_lss rfl rfl rfl) ?_
  refine JL_nil ?_
  refine J_cond_p rfl (fun h1 => ?_) (fun h1 => ?_)
  ·
    refine J_seq ?_
    refine J_region ?_
    refine jl rfl rfl (ltn hn rfl) (pure_assign rfl rfl) ?_
    refine JL_nil ?_
    refine J_ret ?_
    exact Fin_one rfl (Le_one rfl (vi (by unfold szE at *; split at * <;> omega)) rfl)
  ·
    refine J_skip ?_
    refine J_seq ?_
    refine J_region ?_
    refine jl rfl rfl (ltn hn rfl) (pure_move rfl rfl) ?_
    refine jl rfl rfl (ltn hn rfl) (pure_assign rfl rfl) ?_
    refine JL_nil ?_
    refine J_ret ?_
    exact Fin_one rfl (Le_one rfl (vi (by unfold szE at *; split at * <;> omega)) rfl)
theorem EqP_spec (a b : Int × Int) : Spec Tryz.prog 101 [Pr a, Pr b] (B (decide (a = b))) [] := by
  refine Spec.intro (c := _) Tryz.func101 rfl (Nat.le_of_ble_eq_true rfl) (fun C hC hfx => ?_)
  have hn : C.n = 17 := hC
  refine (show J _ _ _ _ (⟨[(0, Pr a), (1, Pr b)], []⟩ : AS) from ?_)
  refine J_seq ?_
  refine J_region ?_
  refine jl_o rfl (op_box_agg rfl rfl (ltn hn rfl) rfl rfl rfl) ?_
  refine jl_o rfl (op_box_agg rfl rfl (ltn hn rfl) rfl rfl rfl) ?_
  refine jl rfl rfl (ltn hn rfl) (pure_assign rfl rfl) ?_
  refine JL_nil ?_
  refine J_seq ?_
  refine J_seq ?_
  refine J_region ?_
  refine jl rfl rfl (ltn hn rfl) (pure_assign rfl rfl) ?_
  refine JL_nil ?_
  refine J_block ?_
  refine J_loop (X := Nat) (fun i => ⟨[(2, .box 2 0), (3, .box 3 0), (5, I (i : Nat))], [(2, .box 89 [I a.1, I a.2]), (3, .box 89 [I b.1, I b.2])]⟩) (fun i => i ≤ 2 ∧ (0 < i → a.1 = b.1) ∧ (1 < i → a.2 = b.2)) (fun i => 2 - i) 0 ?_ ?_ ?_
  · exact ⟨by omega, fun h => by omega, fun h => by omega⟩
  ·
    refine Le_sub C _ _ ⟨rfl, ⟨rfl, ⟨rfl, trivial⟩⟩⟩ ⟨rfl, ⟨rfl, trivial⟩⟩ rfl rfl
  ·
    intro i hR
    obtain ⟨hi, hc1, hc2⟩ := hR
    refine J_seq ?_
    refine J_seq ?_
    refine J_region ?_
    refine jl rfl rfl (ltn hn rfl) (pure_move rfl rfl) ?_
    refine jl rfl rfl (ltn hn rfl) (pure_lss rfl rfl rfl) ?_
    refine JL_nil ?_
    refine J_cond_p rfl (fun h1 => ?_) (fun h1 => ?_)
    ·
      refine J_skip ?_
      refine J_seq ?_
      refine J_block ?_
      refine J_seq ?_
      refine J_draw follows_mixed (by kernel_rfl) ?_
      refine jq rfl rfl (ltn hn rfl) (pure_move rfl rfl) ?_
      refine jq rfl rfl (ltn hn rfl) (p_idx_ab rfl rfl rfl (by omega) (by omega) (show 0 + ((i : Nat) : Int).toNat * 1 = i by omega)) ?_
      refine jq rfl rfl (ltn hn rfl) (p_ld_b rfl rfl rfl (pair_get (by omega))) ?_
      refine jq rfl rfl (ltn hn rfl) (pure_move rfl rfl) ?_
      refine jq rfl rfl (ltn hn rfl) (p_idx_ab rfl rfl rfl (by omega) (by omega) (show 0 + ((i : Nat) : Int).toNat * 1 = i by omega)) ?_
      refine jq rfl rfl (ltn hn rfl) (p_ld_b rfl rfl rfl (pair_get (by omega))) ?_
      refine jq rfl rfl (ltn hn rfl) (pure_neq rfl rfl rfl) ?_
      refine JQ_nil ?_
      refine J_cond_p rfl (fun h2 => ?_) (fun h2 => ?_)
      ·
        refine J_seq ?_
        refine J_region ?_
        refine jl rfl rfl (ltn hn rfl) (pure_assign rfl rfl) ?_
        refine JL_nil ?_
        refine J_ret ?_
        have e : a ≠ b := by
          rintro rfl
          exact h2 rfl
        exact Fin_one rfl (Le_one rfl (vb (by simp [e])) rfl)
      ·
        refine J_skip ?_
        refine J_region ?_
        refine jl rfl rfl (ltn hn rfl) (pure_move rfl rfl) ?_
        refine jl rfl rfl (ltn hn rfl) (pure_add rfl rfl rfl (by omega)) ?_
        refine jl rfl rfl (ltn hn rfl) (pure_assign rfl rfl) ?_
        refine JL_nil ?_
        have h2 := Decidable.not_not.1 h2
        have g1 : i = 0 → a.1 = b.1 := fun e => by subst e; simpa using h2
        have g2 : i = 1 → a.2 = b.2 := fun e => by subst e; simpa using h2
        refine ⟨i + 1, ?_, ?_, ?_⟩
        · exact ⟨by omega, fun _ => (by rcases (by omega : i = 0 ∨ 0 < i) with e | e; exact g1 e; exact hc1 e), fun _ => (by rcases (by omega : i = 1 ∨ 1 < i) with e | e; exact g2 e; exact hc2 e)⟩
        · omega
        ·
          refine Le_sub C _ _ ⟨rfl, ⟨rfl, ⟨(eqv rfl (vi (by omega))), trivial⟩⟩⟩ ⟨rfl, ⟨rfl, trivial⟩⟩ rfl rfl
    ·
      refine J_exit ?_
      refine J_seq ?_
      refine J_region ?_
      refine jl rfl rfl (ltn hn rfl) (pure_assign rfl rfl) ?_
      refine JL_nil ?_
      refine J_ret ?_
      have e : a = b := Prod.ext (hc1 (by omega)) (hc2 (by omega))
      exact Fin_one rfl (Le_one rfl (vb (by simp [e])) rfl)
theorem EqPs_spec (a b : List (Int × Int)) (ha : a.length < 2^40) (hb : b.length < 2^40) : Spec Tryz.prog 56 [LP a, LP b] (B (decide (a = b))) [] := by
  refine Spec.intro (c := _) Tryz.func56 rfl (Nat.le_of_ble_eq_true rfl) (fun C hC hfx => ?_)
  have hn : C.n = 27 := hC
  refine (show J _ _ _ _ (⟨[(0, LP a), (1, LP b)], []⟩ : AS) from ?_)
  refine J_seq ?_
  refine J_region ?_
  refine jl rfl rfl (ltn hn rfl) (pure_assign rfl rfl) ?_
  refine JL_nil ?_
  refine J_seq ?_
  refine J_seq ?_
  refine J_region ?_
  refine jl rfl rfl (ltn hn rfl) (pure_move rfl rfl) ?_
  refine jl rfl rfl (ltn hn rfl) (p_len_m rfl rfl) ?_
  refine jl rfl rfl (ltn hn rfl) (pure_move rfl rfl) ?_
  refine jl rfl rfl (ltn hn rfl) (p_len_m rfl rfl) ?_
  refine jl rfl rfl (ltn hn rfl) (pure_neq rfl rfl rfl) ?_
  refine JL_nil ?_
  refine J_cond_p rfl (fun h1 => ?_) (fun h1 => ?_)
  ·
    refine J_seq ?_
    refine J_region ?_
    refine jl rfl rfl (ltn hn rfl) (pure_assign rfl rfl) ?_
    refine JL_nil ?_
    refine J_ret ?_
    exact Fin_one rfl (Le_one rfl (vb (by simp; intro e; subst e; exact h1 rfl)) rfl)
  ·
    refine J_skip ?_
    refine J_seq ?_
    refine J_seq ?_
    refine J_region ?_
    refine jl rfl rfl (ltn hn rfl) (pure_assign rfl rfl) ?_
    refine JL_nil ?_
    refine J_block ?_
    refine J_loop (X := Nat) (fun i => ⟨[(0, LP a), (1, LP b), (5, I (i : Nat))], []⟩) (fun i => i ≤ a.length ∧ a.take i = b.take i) (fun i => a.length - i) 0 ?_ ?_ ?_
    · exact ⟨by simp, by simp⟩
    ·
      refine Le_sub C _ _ ⟨rfl, ⟨rfl, ⟨rfl, trivial⟩⟩⟩ trivial rfl rfl
    ·
      intro i hR
      obtain ⟨hi, hc⟩ := hR
      refine J_seq ?_
      refine J_seq ?_
      refine J_region ?_
      refine jl rfl rfl (ltn hn rfl) (pure_move rfl rfl) ?_
      refine jl rfl rfl (ltn hn rfl) (pure_move rfl rfl) ?_
      refine jl rfl rfl (ltn hn rfl) (p_len_m rfl rfl) ?_
      refine jl rfl rfl (ltn hn rfl) (pure_lss rfl rfl rfl) ?_
      refine JL_nil ?_
      refine J_cond_p rfl (fun h2 => ?_) (fun h2 => ?_)
      ·
        refine J_skip ?_
        refine J_seq ?_
        refine J_block ?_
        refine J_seq ?_
        refine J_draw follows_mixed (by kernel_rfl) ?_
        refine jq rfl rfl (ltn hn rfl) (pure_move rfl rfl) ?_
        refine jq rfl rfl (ltn hn rfl) (pure_move rfl rfl) ?_
        refine jq rfl rfl (ltn hn rfl) (p_idx rfl rfl rfl (by omega) (mget (by omega))) ?_
        refine jq rfl rfl (ltn hn rfl) (p_ld_a rfl rfl (Nat.le_of_ble_eq_true rfl) rfl) ?_
        refine jq rfl rfl (ltn hn rfl) (pure_move rfl rfl) ?_
        refine jq rfl rfl (ltn hn rfl) (pure_move rfl rfl) ?_
        refine jq rfl rfl (ltn hn rfl) (p_idx rfl rfl rfl (by omega) (mget (by omega))) ?_
        refine jq rfl rfl (ltn hn rfl) (p_ld_a rfl rfl (Nat.le_of_ble_eq_true rfl) rfl) ?_
        refine JQ_call (args := [.tmp 20, .tmp 24]) rfl (EqP_spec _ _) rfl Tryz.func101 rfl rfl rfl (ltn hn rfl) ⟨rfl, rfl, ⟨rfl, rfl, trivial⟩⟩ ?_
        refine jq rfl rfl (ltn hn rfl) (pure_not_b rfl rfl) ?_
        refine JQ_nil ?_
        refine J_cond rfl (fun h3 => ?_) (fun h3 => ?_)
        ·
          refine J_seq ?_
          refine J_region ?_
          refine jl rfl rfl (ltn hn rfl) (pure_assign rfl rfl) ?_
          refine JL_nil ?_
          refine J_ret ?_
          exact Fin_one rfl (Le_one rfl (vb (by simp; intro e; subst e; simp at h3)) rfl)
        ·
          refine J_skip ?_
          refine J_region ?_
          refine jl rfl rfl (ltn hn rfl) (pure_move rfl rfl) ?_
          refine jl rfl rfl (ltn hn rfl) (pure_add rfl rfl rfl (by omega)) ?_
          refine jl rfl rfl (ltn hn rfl) (pure_assign rfl rfl) ?_
          refine JL_nil ?_
          refine ⟨i + 1, ?_, ?_, ?_⟩
          · exact ⟨by omega, by rw [take_gi (by omega), take_gi (by omega), hc, show gi a i = gi b i by simpa using h3]⟩
          · omega
          ·
            refine Le_sub C _ _ ⟨rfl, ⟨rfl, ⟨(eqv rfl (vi (by omega))), trivial⟩⟩⟩ trivial rfl rfl
      ·
        refine J_exit ?_
        refine J_seq ?_
        refine J_region ?_
        refine jl rfl rfl (ltn hn rfl) (pure_assign rfl rfl) ?_
        refine JL_nil ?_
        refine J_ret ?_
        exact Fin_one rfl (Le_one rfl (vb (by rw [take_all h2, take_all (by omega)] at hc; simp [hc])) rfl)
theorem EqG_spec (n m : Int) (a b : List (Int × Int)) (ha : a.length < 2^40) (hb : b.length < 2^40) : Spec Tryz.prog 20 [Gr n a, Gr m b] (B (decide (n = m) && decide (a = b))) [] := by
  refine Spec.intro (c := _) Tryz.func20 rfl (Nat.le_of_ble_eq_true rfl) (fun C hC hfx => ?_)
  have hn : C.n = 16 := hC
  refine (show J _ _ _ _ (⟨[(0, Gr n a), (1, Gr m b)], []⟩ : AS) from ?_)
  refine J_seq ?_
  refine J_region ?_
  refine jl_o rfl (op_box_agg rfl rfl (ltn hn rfl) rfl rfl rfl) ?_
  refine jl_o rfl (op_box_agg rfl rfl (ltn hn rfl) rfl rfl rfl) ?_
  refine jl rfl rfl (ltn hn rfl) (pure_assign rfl rfl) ?_
  refine JL_nil ?_
  refine J_seq ?_
  refine J_seq ?_
  refine J_region ?_
  refine jl rfl rfl (ltn hn rfl) (p_fld_b rfl rfl rfl) ?_
  refine jl rfl rfl (ltn hn rfl) (p_ld_b rfl rfl rfl rfl) ?_
  refine jl rfl rfl (ltn hn rfl) (p_fld_b rfl rfl rfl) ?_
  refine jl rfl rfl (ltn hn rfl) (p_ld_b rfl rfl rfl rfl) ?_
  refine jl rfl rfl (ltn hn rfl) (pure_neq rfl rfl rfl) ?_
  refine JL_nil ?_
  refine J_cond_p rfl (fun h1 => ?_) (fun h1 => ?_)
  ·
    refine J_seq ?_
    refine J_region ?_
    refine jl rfl rfl (ltn hn rfl) (pure_assign rfl rfl) ?_
    refine JL_nil ?_
    refine J_ret ?_
    exact Fin_one rfl (Le_one rfl (vb (by simp_all)) rfl)
  ·
    refine J_skip ?_
    refine J_seq ?_
    refine J_seq ?_
    refine J_region ?_
    refine jl rfl rfl (ltn hn rfl) (p_fld_b rfl rfl rfl) ?_
    refine jl rfl rfl (ltn hn rfl) (p_ld_b rfl rfl rfl rfl) ?_
    refine jl rfl rfl (ltn hn rfl) (p_fld_b rfl rfl rfl) ?_
    refine jl rfl rfl (ltn hn rfl) (p_ld_b rfl rfl rfl rfl) ?_
    refine jl_o rfl (@op_call _ _ _ _ _ _ [.tmp 11, .tmp 13] _ _ _ _ _ (EqPs_spec _ _ (by omega) (by omega)) rfl Tryz.func56 rfl rfl rfl (ltn hn rfl) ⟨rfl, rfl, ⟨rfl, rfl, trivial⟩⟩ rfl rfl) ?_
    refine jl rfl rfl (ltn hn rfl) (pure_not_b rfl rfl) ?_
    refine JL_nil ?_
    refine J_cond rfl (fun h2 => ?_) (fun h2 => ?_)
    ·
      refine J_seq ?_
      refine J_region ?_
      refine jl rfl rfl (ltn hn rfl) (pure_assign rfl rfl) ?_
      refine JL_nil ?_
      refine J_ret ?_
      exact Fin_one rfl (Le_one rfl (vb (by simp_all)) rfl)
    ·
      refine J_skip ?_
      refine J_seq ?_
      refine J_region ?_
      refine jl rfl rfl (ltn hn rfl) (pure_assign rfl rfl) ?_
      refine JL_nil ?_
      refine J_ret ?_
      exact Fin_one rfl (Le_one rfl (vb (by simp_all)) rfl)
theorem ToP_spec (a : Int × Int) : Spec Tryz.prog 92 [Pr a] (Pr a) [] := by
  refine Spec.intro (c := _) Tryz.func92 rfl (Nat.le_of_ble_eq_true rfl) (fun C hC hfx => ?_)
  have hn : C.n = 15 := hC
  refine (show J _ _ _ _ (⟨[(0, Pr a)], []⟩ : AS) from ?_)
  refine J_seq ?_
  refine J_region ?_
  refine jl_o rfl (op_box_agg rfl rfl (ltn hn rfl) rfl rfl rfl) ?_
  refine jl_o rfl (@op_alloc _ _ _ _ _ _ _ rfl ZrT.out rfl rfl (ltn hn rfl) rfl) ?_
  refine JL_nil ?_
  refine J_seq ?_
  refine J_region ?_
  refine jl_o rfl (@op_alloc _ _ _ _ _ _ _ rfl ZrT.out rfl rfl (ltn hn rfl) rfl) ?_
  refine JL_nil ?_
  refine J_seq ?_
  refine J_seq ?_
  refine J_region ?_
  refine jl rfl rfl (ltn hn rfl) (pure_assign rfl rfl) ?_
  refine JL_nil ?_
  refine J_block ?_
  refine J_loop (X := Nat) (fun i => ⟨[(1, .box 1 0), (2, .box 2 0), (3, .box 3 0), (4, I (i : Nat))], [(1, .box 89 [I a.1, I a.2]), (2, .box 89 [I 0, I 0]), (3, .box 89 [I (if 0 < i then a.1 else 0), I (if 1 < i then a.2 else 0)])]⟩) (fun i => i ≤ 2) (fun i => 2 - i) 0 ?_ ?_ ?_
  · omega
  ·
    refine Le_sub C _ _ ⟨rfl, ⟨rfl, ⟨rfl, ⟨rfl, trivial⟩⟩⟩⟩ ⟨rfl, ⟨rfl, ⟨rfl, trivial⟩⟩⟩ rfl rfl
  ·
    intro i hi
    refine J_seq ?_
    refine J_seq ?_
    refine J_region ?_
    refine jl rfl rfl (ltn hn rfl) (pure_move rfl rfl) ?_
    refine jl rfl rfl (ltn hn rfl) (pure_lss rfl rfl rfl) ?_
    refine JL_nil ?_
    refine J_cond_p rfl (fun h1 => ?_) (fun h1 => ?_)
    ·
      refine J_skip ?_
      refine J_seq ?_
      refine J_block ?_
      refine J_region ?_
      refine jl rfl rfl (ltn hn rfl) (pure_move rfl rfl) ?_
      refine jl rfl rfl (ltn hn rfl) (pure_move rfl rfl) ?_
      refine jl rfl rfl (ltn hn rfl) (p_idx_ab rfl rfl rfl (by omega) (by omega) (show 0 + ((i : Nat) : Int).toNat * 1 = i by omega)) ?_
      refine jl rfl rfl (ltn hn rfl) (p_ld_b rfl rfl rfl (pair_get (by omega))) ?_
      refine jl rfl rfl (ltn hn rfl) (p_idx_ab rfl rfl rfl (by omega) (by omega) (show 0 + ((i : Nat) : Int).toNat * 1 = i by omega)) ?_
      refine jl_o rfl (op_store_box rfl rfl SzT.out rfl rfl (by show i + 1 ≤ 2; omega) rfl rfl) ?_
      refine JL_nil ?_
      refine J_region ?_
      refine jl rfl rfl (ltn hn rfl) (pure_move rfl rfl) ?_
      refine jl rfl rfl (ltn hn rfl) (pure_add rfl rfl rfl (by omega)) ?_
      refine jl rfl rfl (ltn hn rfl) (pure_assign rfl rfl) ?_
      refine JL_nil ?_
      refine ⟨i + 1, ?_, ?_, ?_⟩
      · omega
      · omega
      ·
        refine Le_sub C _ _ ⟨rfl, ⟨rfl, ⟨rfl, ⟨(eqv rfl (vi (by omega))), trivial⟩⟩⟩⟩ ⟨rfl, ⟨rfl, ⟨(eqv rfl (by rcases (by omega : i = 0 ∨ i = 1) with rfl | rfl <;> rfl)), trivial⟩⟩⟩ rfl rfl
    ·
      refine J_exit ?_
      refine J_seq ?_
      refine J_region ?_
      refine jl rfl rfl (ltn hn rfl) (p_ld_ba rfl rfl rfl (Nat.le_of_ble_eq_true rfl) rfl) ?_
      refine jl_o rfl (op_store_box_agg rfl rfl (by exact SzT.out) rfl rfl (by exact Nat.le_of_ble_eq_true rfl) rfl rfl) ?_
      refine JL_nil ?_
      refine J_ret ?_
      obtain rfl : i = 2 := by omega
      exact Fin_cell (i := 2) rfl LdT.out rfl (Le_sub C _ _ ⟨rfl, trivial⟩ ⟨rfl, trivial⟩ rfl rfl) rfl rfl rfl rfl
end Go.Proofs.YtmiijpobhajfmaaGreat.J
namespace Go.Proofs.YtmiijpobhajfmaaGreat.J
open Go Go.RowKit
set_option linter.unusedVariables false
set_option linter.unusedSimpArgs false

def halfL (es : List (Int × Int)) (i : Nat) : List (Int × Int) := es.take i ++ List.replicate (es.length - i) (0, 0)
theorem halfL_len {es : List (Int × Int)} {i : Nat} (h : i ≤ es.length) : (halfL es i).length = es.length := by
  simp [halfL]
  omega
theorem halfL_set {es : List (Int × Int)} {i : Nat} (h : i < es.length) : (halfL es i).set i (gi es i) = halfL es (i + 1) := by
  unfold halfL
  have h1 : (es.take i).length = i := by rw [List.length_take]; omega
  obtain ⟨m, hm⟩ : ∃ m, es.length - i = m + 1 := ⟨es.length - i - 1, by omega⟩
  have h2 : es.length - (i + 1) = m := by omega
  rw [List.set_append_right _ _ (by omega), h1, Nat.sub_self, hm, h2, List.replicate_succ, List.set_cons_zero, take_gi h, List.append_assoc]
  rfl

theorem ToPs_spec (es : List (Int × Int)) (hl : es.length < 2^40) : Spec Tryz.prog 51 [LP es] (LP es) [] := by
  refine Spec.intro (c := _) Tryz.func51 rfl (Nat.le_of_ble_eq_true rfl) (fun C hC hfx => ?_)
  have hn : C.n = 23 := hC
  refine (show J _ _ _ _ (⟨[(0, LP es)], []⟩ : AS) from ?_)
  refine J_seq ?_
  refine J_region ?_
  refine jl rfl rfl (ltn hn rfl) (pure_assign rfl rfl) ?_
  refine JL_nil ?_
  refine J_seq ?_
  refine J_region ?_
  refine jl rfl rfl (ltn hn rfl) (pure_move rfl rfl) ?_
  refine jl rfl rfl (ltn hn rfl) (p_len_m rfl rfl) ?_
  refine jl_o rfl (@op_make_m _ _ _ _ _ cP (0, 0) _ _ _ _ _ _ _ _ _ SlT.slk ZrT.out rfl rfl rfl (ltn hn rfl) rfl rfl rfl (by omega) (by omega) (by omega)) ?_
  refine jl rfl rfl (ltn hn rfl) (pure_assign rfl rfl) ?_
  refine JL_nil ?_
  refine J_seq ?_
  refine J_seq ?_
  refine J_region ?_
  refine jl rfl rfl (ltn hn rfl) (pure_assign rfl rfl) ?_
  refine JL_nil ?_
  refine J_block ?_
  refine J_loop (X := Nat) (fun i => ⟨[(0, LP es), (3, .own 7 []), (4, I (i : Nat))], [(7, Ow 89 2 cP (halfL es i))]⟩) (fun i => i ≤ es.length) (fun i => es.length - i) 0 ?_ ?_ ?_
  · omega
  ·
    refine Le_sub C _ _ ⟨rfl, ⟨rfl, ⟨rfl, trivial⟩⟩⟩ ⟨(eqv rfl (by rw [Int.toNat_natCast]; rfl)), trivial⟩ rfl rfl
  ·
    intro i hi
    refine J_seq ?_
    refine J_seq ?_
    refine J_region ?_
    refine jl rfl rfl (ltn hn rfl) (pure_move rfl rfl) ?_
    refine jl rfl rfl (ltn hn rfl) (pure_move rfl rfl) ?_
    refine jl rfl rfl (ltn hn rfl) (p_len_m rfl rfl) ?_
    refine jl rfl rfl (ltn hn rfl) (pure_lss rfl rfl rfl) ?_
    refine JL_nil ?_
    refine J_cond_p rfl (fun h1 => ?_) (fun h1 => ?_)
    ·
      refine J_skip ?_
      refine J_seq ?_
      refine J_block ?_
      refine J_region ?_
      refine jl rfl rfl (ltn hn rfl) (pure_move rfl rfl) ?_
      refine jl rfl rfl (ltn hn rfl) (pure_move rfl rfl) ?_
      refine jl rfl rfl (ltn hn rfl) (pure_move rfl rfl) ?_
      refine jl rfl rfl (ltn hn rfl) (pure_move rfl rfl) ?_
      refine jl rfl rfl (ltn hn rfl) (p_idx rfl rfl rfl (by omega) (mget (by omega))) ?_
      refine jl rfl rfl (ltn hn rfl) (p_ld_a rfl rfl (Nat.le_of_ble_eq_true rfl) rfl) ?_
      refine jl_o rfl (@op_call _ _ _ _ _ _ [.tmp 19] _ _ _ _ _ (ToP_spec _) rfl Tryz.func92 rfl rfl rfl (ltn hn rfl) ⟨rfl, rfl, trivial⟩ rfl rfl) ?_
      refine jl rfl rfl (ltn hn rfl) (p_idx_own_m rfl rfl rfl rfl (by have := halfL_len hi; omega) (by have := halfL_len hi; omega)) ?_
      refine jl_o rfl (@op_store_rowA_m _ _ _ _ _ cP (gi es i) _ _ _ _ _ _ _ _ _ (by exact SzT.out) rfl rfl rfl rfl rfl rfl rfl rfl rfl (fun _ => rfl) (by have := halfL_len hi; omega)) ?_
      refine JL_nil ?_
      refine J_region ?_
      refine jl rfl rfl (ltn hn rfl) (pure_move rfl rfl) ?_
      refine jl rfl rfl (ltn hn rfl) (pure_add rfl rfl rfl (by omega)) ?_
      refine jl rfl rfl (ltn hn rfl) (pure_assign rfl rfl) ?_
      refine JL_nil ?_
      refine ⟨i + 1, ?_, ?_, ?_⟩
      · omega
      · omega
      ·
        refine Le_sub C _ _ ⟨rfl, ⟨rfl, ⟨(eqv rfl (vi (by omega))), trivial⟩⟩⟩ ⟨(eqv rfl (by rw [← halfL_set (by omega)]; rfl)), trivial⟩ rfl rfl
    ·
      refine J_exit ?_
      refine J_seq ?_
      refine J_region ?_
      refine jl rfl rfl (ltn hn rfl) (pure_move rfl rfl) ?_
      refine jl rfl rfl (ltn hn rfl) (pure_assign rfl rfl) ?_
      refine JL_nil ?_
      refine J_ret ?_
      obtain rfl : i = es.length := by omega
      exact Fin_one rfl (Le.trans (Le_frz 7 rfl rfl) (Le_one rfl (congrArg LP (by simp [halfL])) rfl))
theorem ToG_spec (n : Int) (es : List (Int × Int)) (hl : es.length < 2^40) : Spec Tryz.prog 16 [Gr n es] (Gr n es) [] := by
  refine Spec.intro (c := _) Tryz.func16 rfl (Nat.le_of_ble_eq_true rfl) (fun C hC hfx => ?_)
  have hn : C.n = 12 := hC
  refine (show J _ _ _ _ (⟨[(0, Gr n es)], []⟩ : AS) from ?_)
  refine J_seq ?_
  refine J_region ?_
  refine jl_o rfl (op_box_agg rfl rfl (ltn hn rfl) rfl rfl rfl) ?_
  refine jl_o rfl (@op_alloc _ _ _ _ _ _ _ rfl ZrT.out rfl rfl (ltn hn rfl) rfl) ?_
  refine JL_nil ?_
  refine J_seq ?_
  refine J_region ?_
  refine jl_o rfl (@op_alloc _ _ _ _ _ _ _ rfl ZrT.out rfl rfl (ltn hn rfl) rfl) ?_
  refine JL_nil ?_
  refine J_seq ?_
  refine J_region ?_
  refine jl rfl rfl (ltn hn rfl) (p_fld_b rfl rfl rfl) ?_
  refine jl rfl rfl (ltn hn rfl) (p_ld_b rfl rfl rfl rfl) ?_
  refine jl rfl rfl (ltn hn rfl) (p_fld_b rfl rfl rfl) ?_
  refine jl_o rfl (op_store_box rfl rfl SzT.out rfl rfl (by exact Nat.le_of_ble_eq_true rfl) rfl rfl) ?_
  refine JL_nil ?_
  refine J_seq ?_
  refine J_region ?_
  refine jl rfl rfl (ltn hn rfl) (p_fld_b rfl rfl rfl) ?_
  refine jl rfl rfl (ltn hn rfl) (p_ld_b rfl rfl rfl rfl) ?_
  refine jl_o rfl (@op_call _ _ _ _ _ _ [.tmp 8] _ _ _ _ _ (ToPs_spec _ (by omega)) rfl Tryz.func51 rfl rfl rfl (ltn hn rfl) ⟨rfl, rfl, trivial⟩ rfl rfl) ?_
  refine jl rfl rfl (ltn hn rfl) (p_fld_b rfl rfl rfl) ?_
  refine jl_o rfl (op_store_box rfl rfl SzT.out rfl rfl (by exact Nat.le_of_ble_eq_true rfl) rfl rfl) ?_
  refine JL_nil ?_
  refine J_seq ?_
  refine J_region ?_
  refine jl rfl rfl (ltn hn rfl) (p_ld_ba rfl rfl rfl (Nat.le_of_ble_eq_true rfl) rfl) ?_
  refine jl_o rfl (op_store_box_agg rfl rfl (by exact SzT.out) rfl rfl (by exact Nat.le_of_ble_eq_true rfl) rfl rfl) ?_
  refine JL_nil ?_
  refine J_ret ?_
  exact Fin_cell (i := 2) rfl LdT.out rfl (Le_sub C _ _ ⟨rfl, trivial⟩ ⟨rfl, trivial⟩ rfl rfl) rfl rfl rfl rfl
end Go.Proofs.YtmiijpobhajfmaaGreat.J
