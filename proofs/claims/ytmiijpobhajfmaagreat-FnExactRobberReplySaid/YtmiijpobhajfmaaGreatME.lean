/- Parts of a small logic over the program, and walks in it. No statement of the seat is proved in this text. -/
import Derived.Test.YtmiijpobhajfmaaGreatMD
namespace Go.Proofs.YtmiijpobhajfmaaGreat.J
open Go Go.RowKit
set_option linter.unusedVariables false
set_option linter.unusedSimpArgs false

def putL (l : List Int) (n : Int) : List Int := l.takeWhile (· < n) ++ (if (l.dropWhile (· < n)).head? = some n then [] else [n]) ++ l.dropWhile (· < n)
theorem has_step {l : List Int} {n : Int} {i : Nat} (h : (i : Int) < l.length) (hc : (l.take i).contains n = false) (hn : ¬ gi l i = n) : (l.take (i + 1)).contains n = false := by
  rw [take_gi (by omega)]
  simp only [List.contains_eq_mem, List.mem_append, List.mem_singleton, decide_eq_false_iff_not] at *
  rintro (h1 | h1)
  · exact hc h1
  · exact hn h1.symm
theorem has_hit {l : List Int} {n : Int} {i : Nat} (h : (i : Int) < l.length) (hn : gi l i = n) : l.contains n = true := by
  simp only [List.contains_eq_mem, decide_eq_true_eq]
  subst hn
  simp only [gi, List.getD]
  rw [List.getElem?_eq_getElem (by omega)]
  exact List.getElem_mem _
theorem drop_gi {α : Type} [Inhabited α] {l : List α} {i : Nat} (h : i < l.length) : l.drop i = gi l i :: l.drop (i + 1) := by
  rw [List.drop_eq_getElem_cons h]
  simp [gi, List.getD, h]
theorem all_step {l : List Int} {p : Int → Bool} {i : Nat} (h : (i : Int) < l.length) (hc : (l.take i).all p = true) (hn : p (gi l i) = true) : (l.take (i + 1)).all p = true := by
  rw [take_gi (by omega), List.all_append, hc]
  simp [hn]
theorem span_at {l : List Int} {p : Int → Bool} {i : Nat} (hi : i ≤ l.length) (hc : (l.take i).all p = true) (h : i < l.length → p (gi l i) = false) : l.takeWhile p = l.take i ∧ l.dropWhile p = l.drop i := by
  have hd : (l.drop i).takeWhile p = [] ∧ (l.drop i).dropWhile p = l.drop i := by
    by_cases e : i < l.length
    · rw [drop_gi e]
      simp [h e]
    · rw [List.drop_eq_nil_of_le (by omega)]
      simp
  have h1 : ∀ a ∈ l.take i, p a = true := List.all_eq_true.1 hc
  have e1 : l.takeWhile p = (l.take i ++ l.drop i).takeWhile p := by rw [List.take_append_drop]
  have e2 : l.dropWhile p = (l.take i ++ l.drop i).dropWhile p := by rw [List.take_append_drop]
  rw [List.takeWhile_append_of_pos h1, hd.1, List.append_nil] at e1
  rw [List.dropWhile_append_of_pos h1, hd.2] at e2
  exact ⟨e1, e2⟩
theorem put_same {l : List Int} {n : Int} {i : Nat} (hi : (i : Int) < l.length) (hc : (l.take i).all (· < n) = true) (h : gi l i = n) : l = putL l n := by
  obtain ⟨e1, e2⟩ := span_at (p := (· < n)) (by omega) hc (fun _ => by simp [h])
  unfold putL
  rw [e1, e2, drop_gi (by omega), h]
  simp only [List.head?_cons, if_true, List.append_nil]
  rw [← h, ← drop_gi (by omega), List.take_append_drop]
theorem put_new {l : List Int} {n : Int} {i : Nat} (hi : i ≤ l.length) (hc : (l.take i).all (· < n) = true) (h : (i : Int) < l.length → ¬ gi l i < n ∧ ¬ gi l i = n) : [] ++ (l.take (i : Int).toNat).drop (0 : Int).toNat ++ [n] ++ (l.take (l.length : Int).toNat).drop (i : Int).toNat = putL l n := by
  obtain ⟨e1, e2⟩ := span_at (p := (· < n)) hi hc (fun hl => by simpa using (h (by omega)).1)
  unfold putL
  rw [e1, e2]
  by_cases e : i < l.length
  · rw [drop_gi e]
    have h2 := (h (by omega)).2
    simp [h2, drop_gi e]
  · simp [List.drop_eq_nil_of_le (Nat.le_of_not_lt e)]

theorem In_spec (x a b : Int) : Spec Tryz.prog 82 [I x, I a, I b] (B (decide (a ≤ x) && decide (x ≤ b))) [] := by
  refine Spec.intro (c := _) Tryz.func82 rfl (Nat.le_of_ble_eq_true rfl) (fun C hC hfx => ?_)
  have hn : C.n = 15 := hC
  refine (show J _ _ _ _ (⟨[(0, I x), (1, I a), (2, I b)], []⟩ : AS) from ?_)
  refine J_seq ?_
  refine J_region ?_
  refine jl rfl rfl (ltn hn rfl) (pure_assign rfl rfl) ?_
  refine JL_nil ?_
  refine J_seq ?_
  refine J_region ?_
  refine jl rfl rfl (ltn hn rfl) (pure_move rfl rfl) ?_
  refine jl rfl rfl (ltn hn rfl) (pure_move rfl rfl) ?_
  refine jl rfl rfl (ltn hn rfl) (pure_geq rfl rfl rfl) ?_
  refine jl rfl rfl (ltn hn rfl) (pure_move rfl rfl) ?_
  refine jl_split rfl rfl rfl (fun h1 => ?_) (fun h1 => ?_)
  ·
    refine jl rfl rfl (ltn hn rfl) (pure_move rfl rfl) ?_
    refine jl rfl rfl (ltn hn rfl) (pure_move rfl rfl) ?_
    refine jl rfl rfl (ltn hn rfl) (pure_leq rfl rfl rfl) ?_
    refine jl rfl rfl (ltn hn rfl) (pure_pick_t rfl rfl rfl) ?_
    refine jl rfl rfl (ltn hn rfl) (pure_assign rfl rfl) ?_
    refine JL_nil ?_
    refine J_ret ?_
    exact Fin_one rfl (Le_one rfl (vb (by simp; omega)) rfl)
  ·
    refine jl_s rfl rfl (ltn hn rfl) ?_
    refine jl_s rfl rfl (ltn hn rfl) ?_
    refine jl_s rfl rfl (ltn hn rfl) ?_
    refine jl rfl rfl (ltn hn rfl) (pure_pick_f rfl rfl rfl) ?_
    refine jl rfl rfl (ltn hn rfl) (pure_assign rfl rfl) ?_
    refine JL_nil ?_
    refine J_ret ?_
    exact Fin_one rfl (Le_one rfl (vb (by simp; omega)) rfl)
theorem Has_spec (l : List Int) (n : Int) (hl : l.length < 2^40) : Spec Tryz.prog 60 [L l, I n] (B (l.contains n)) [] := by
  refine Spec.intro (c := _) Tryz.func60 rfl (Nat.le_of_ble_eq_true rfl) (fun C hC hfx => ?_)
  have hn : C.n = 18 := hC
  refine (show J _ _ _ _ (⟨[(0, L l), (1, I n)], []⟩ : AS) from ?_)
  refine J_seq ?_
  refine J_region ?_
  refine jl rfl rfl (ltn hn rfl) (pure_assign rfl rfl) ?_
  refine JL_nil ?_
  refine J_seq ?_
  refine J_seq ?_
  refine J_region ?_
  refine jl rfl rfl (ltn hn rfl) (pure_assign rfl rfl) ?_
  refine JL_nil ?_
  refine J_block ?_
  refine J_loop (X := Nat) (fun i => ⟨[(0, L l), (1, I n), (5, I (i : Nat))], []⟩) (fun i => i ≤ l.length ∧ (l.take i).contains n = false) (fun i => l.length - i) 0 ?_ ?_ ?_
  · exact ⟨by simp, by simp⟩
  ·
    refine Le_sub C _ _ ⟨rfl, ⟨rfl, ⟨rfl, trivial⟩⟩⟩ trivial rfl rfl
  ·
    intro i hR
    obtain ⟨hi, hc⟩ := hR
    refine J_seq ?_
    refine J_seq ?_
    refine J_region ?_
    refine jl rfl rfl (ltn hn rfl) (pure_move rfl rfl) ?_
    refine jl rfl rfl (ltn hn rfl) (pure_move rfl rfl) ?_
    refine jl rfl rfl (ltn hn rfl) (p_len_m rfl rfl) ?_
    refine jl rfl rfl (ltn hn rfl) (pure_lss rfl rfl rfl) ?_
    refine JL_nil ?_
    refine J_cond_p rfl (fun h1 => ?_) (fun h1 => ?_)
    ·
      refine J_skip ?_
      refine J_seq ?_
      refine J_block ?_
      refine J_seq ?_
      refine J_region ?_
      refine jl rfl rfl (ltn hn rfl) (pure_move rfl rfl) ?_
      refine jl rfl rfl (ltn hn rfl) (pure_move rfl rfl) ?_
      refine jl rfl rfl (ltn hn rfl) (p_idx rfl rfl rfl (by omega) (mget (by omega))) ?_
      refine jl rfl rfl (ltn hn rfl) (p_ld rfl rfl rfl) ?_
      refine jl rfl rfl (ltn hn rfl) (pure_move rfl rfl) ?_
      refine jl rfl rfl (ltn hn rfl) (pure_eql rfl rfl rfl) ?_
      refine JL_nil ?_
      refine J_cond_p rfl (fun h2 => ?_) (fun h2 => ?_)
      ·
        refine J_seq ?_
        refine J_region ?_
        refine jl rfl rfl (ltn hn rfl) (pure_assign rfl rfl) ?_
        refine JL_nil ?_
        refine J_ret ?_
        exact Fin_one rfl (Le_one rfl (vb (has_hit h1 h2).symm) rfl)
      ·
        refine J_skip ?_
        refine J_region ?_
        refine jl rfl rfl (ltn hn rfl) (pure_move rfl rfl) ?_
        refine jl rfl rfl (ltn hn rfl) (pure_add rfl rfl rfl (by omega)) ?_
        refine jl rfl rfl (ltn hn rfl) (pure_assign rfl rfl) ?_
        refine JL_nil ?_
        refine ⟨i + 1, ?_, ?_, ?_⟩
        · exact ⟨by omega, has_step h1 hc h2⟩
        · omega
        ·
          refine Le_sub C _ _ ⟨rfl, ⟨rfl, ⟨(eqv rfl (vi (by omega))), trivial⟩⟩⟩ trivial rfl rfl
    ·
      refine J_exit ?_
      refine J_seq ?_
      refine J_region ?_
      refine jl rfl rfl (ltn hn rfl) (pure_assign rfl rfl) ?_
      refine JL_nil ?_
      refine J_ret ?_
      exact Fin_one rfl (Le_one rfl (vb (by rw [take_all h1] at hc; exact hc.symm)) rfl)
theorem Own_spec (l : List Int) (hl : l.length < 2^40) : Spec Tryz.prog 78 [L l] (.own 0 []) [(0, Ow 3 1 cI l)] := by
  refine Spec.intro (c := _) Tryz.func78 rfl (Nat.le_of_ble_eq_true rfl) (fun C hC hfx => ?_)
  have hn : C.n = 6 := hC
  refine (show J _ _ _ _ (⟨[(0, L l)], []⟩ : AS) from ?_)
  refine J_seq ?_
  refine J_region ?_
  refine jl rfl rfl (ltn hn rfl) (pure_assign rfl rfl) ?_
  refine JL_nil ?_
  refine J_seq ?_
  refine J_region ?_
  refine jl_o rfl (@op_lit0 _ _ _ _ _ cI _ _ _ _ _ SlT.slk rfl rfl (ltn hn rfl) rfl) ?_
  refine jl rfl rfl (ltn hn rfl) (pure_move rfl rfl) ?_
  refine jl_o rfl (op_append_m SlT.slk rfl rfl (ltn hn rfl) rfl rfl (src_sl_m rfl) (by first | omega | (simp only [List.length_append, List.length_cons, List.length_nil, List.length_take, List.length_drop]; omega)) (by first | omega | (simp only [List.length_append, List.length_cons, List.length_nil, List.length_take, List.length_drop]; omega))) ?_
  refine jl rfl rfl (ltn hn rfl) (pure_assign rfl rfl) ?_
  refine JL_nil ?_
  refine J_ret ?_
  exact Fin_one rfl (Le.trans (Le_ren C _ 3 0 rfl rfl (fun _ => hfx _)) (Le_sub C _ _ ⟨rfl, trivial⟩ ⟨rfl, trivial⟩ rfl rfl))
theorem Put_spec (l : List Int) (n : Int) (hl : l.length < 2^40) : Spec Tryz.prog 102 [L l, I n] (L (putL l n)) [] := by
  refine Spec.intro (c := _) Tryz.func102 rfl (Nat.le_of_ble_eq_true rfl) (fun C hC hfx => ?_)
  have hn : C.n = 45 := hC
  refine (show J _ _ _ _ (⟨[(0, L l), (1, I n)], []⟩ : AS) from ?_)
  refine J_seq ?_
  refine J_region ?_
  refine jl rfl rfl (ltn hn rfl) (pure_assign rfl rfl) ?_
  refine JL_nil ?_
  refine J_seq ?_
  refine J_region ?_
  refine jl rfl rfl (ltn hn rfl) (pure_assign rfl rfl) ?_
  refine JL_nil ?_
  refine J_seq ?_
  refine J_block ?_
  refine J_loop (X := Nat) (fun i => ⟨[(0, L l), (1, I n), (5, I (i : Nat))], []⟩) (fun i => i ≤ l.length ∧ (l.take i).all (· < n) = true) (fun i => l.length - i) 0 ?_ ?_ ?_
  · exact ⟨by simp, by simp⟩
  ·
    refine Le_sub C _ _ ⟨rfl, ⟨rfl, ⟨rfl, trivial⟩⟩⟩ trivial rfl rfl
  ·
    intro i hR
    obtain ⟨hi, hc⟩ := hR
    refine J_seq ?_
    refine J_seq ?_
    refine J_region ?_
    refine jl rfl rfl (ltn hn rfl) (pure_move rfl rfl) ?_
    refine jl rfl rfl (ltn hn rfl) (pure_move rfl rfl) ?_
    refine jl rfl rfl (ltn hn rfl) (p_len_m rfl rfl) ?_
    refine jl rfl rfl (ltn hn rfl) (pure_lss rfl rfl rfl) ?_
    refine jl rfl rfl (ltn hn rfl) (pure_move rfl rfl) ?_
    refine jl_split rfl rfl rfl (fun h1 => ?_) (fun h1 => ?_)
    ·
      refine jl rfl rfl (ltn hn rfl) (pure_move rfl rfl) ?_
      refine jl rfl rfl (ltn hn rfl) (pure_move rfl rfl) ?_
      refine jl rfl rfl (ltn hn rfl) (p_idx rfl rfl rfl (by omega) (mget (by omega))) ?_
      refine jl rfl rfl (ltn hn rfl) (p_ld rfl rfl rfl) ?_
      refine jl rfl rfl (ltn hn rfl) (pure_move rfl rfl) ?_
      refine jl rfl rfl (ltn hn rfl) (pure_lss rfl rfl rfl) ?_
      refine jl rfl rfl (ltn hn rfl) (pure_pick_t rfl rfl rfl) ?_
      refine JL_nil ?_
      refine J_cond_p rfl (fun h2 => ?_) (fun h2 => ?_)
      ·
        refine J_skip ?_
        refine J_block ?_
        refine J_region ?_
        refine jl rfl rfl (ltn hn rfl) (pure_move rfl rfl) ?_
        refine jl rfl rfl (ltn hn rfl) (pure_add rfl rfl rfl (by omega)) ?_
        refine jl rfl rfl (ltn hn rfl) (pure_assign rfl rfl) ?_
        refine JL_nil ?_
        refine ⟨i + 1, ?_, ?_, ?_⟩
        · exact ⟨by omega, all_step h1 hc (by simpa using h2)⟩
        · omega
        ·
          refine Le_sub C _ _ ⟨rfl, ⟨rfl, ⟨(eqv rfl (vi (by omega))), trivial⟩⟩⟩ trivial rfl rfl
      ·
        refine J_exit ?_
        refine J_seq ?_
        refine J_seq ?_
        refine J_region ?_
        refine jl rfl rfl (ltn hn rfl) (pure_move rfl rfl) ?_
        refine jl rfl rfl (ltn hn rfl) (pure_move rfl rfl) ?_
        refine jl rfl rfl (ltn hn rfl) (p_len_m rfl rfl) ?_
        refine jl rfl rfl (ltn hn rfl) (pure_lss rfl rfl rfl) ?_
        refine jl rfl rfl (ltn hn rfl) (pure_move rfl rfl) ?_
        refine jl_split rfl rfl rfl (fun h3 => ?_) (fun h3 => ?_)
        ·
          refine jl rfl rfl (ltn hn rfl) (pure_move rfl rfl) ?_
          refine jl rfl rfl (ltn hn rfl) (pure_move rfl rfl) ?_
          refine jl rfl rfl (ltn hn rfl) (p_idx rfl rfl rfl (by omega) (mget (by omega))) ?_
          refine jl rfl rfl (ltn hn rfl) (p_ld rfl rfl rfl) ?_
          refine jl rfl rfl (ltn hn rfl) (pure_move rfl rfl) ?_
          refine jl rfl rfl (ltn hn rfl) (pure_eql rfl rfl rfl) ?_
          refine jl rfl rfl (ltn hn rfl) (pure_pick_t rfl rfl rfl) ?_
          refine JL_nil ?_
          refine J_cond_p rfl (fun h4 => ?_) (fun h4 => ?_)
          ·
            refine J_seq ?_
            refine J_region ?_
            refine jl rfl rfl (ltn hn rfl) (pure_move rfl rfl) ?_
            refine jl rfl rfl (ltn hn rfl) (pure_assign rfl rfl) ?_
            refine JL_nil ?_
            refine J_ret ?_
            first | (exact Fin_one rfl (Le_one rfl (congrArg L (put_same (by omega) hc (by assumption))) rfl)) | (exact Fin_one rfl (Le.trans (Le_frz 33 rfl rfl) (Le_one rfl (congrArg L (put_new hi hc (by intro hlt; omega))) rfl)))
          ·
            refine J_skip ?_
            refine J_seq ?_
            refine J_mixed [33, 39] follows_mixed (by kernel_rfl) ?_
            refine JD1_read 1 rfl (by kernel_rfl) (by kernel_rfl) (by kernel_rfl) rfl rfl (ltn hn rfl) (pure_move rfl rfl) rfl ?_
            refine JD1_read 2 rfl (by kernel_rfl) (by kernel_rfl) (by kernel_rfl) rfl rfl (ltn hn rfl) (pure_move rfl rfl) rfl ?_
            refine JD1_read 3 rfl (by kernel_rfl) (by kernel_rfl) (by kernel_rfl) rfl rfl (ltn hn rfl) (p_slice_m rfl rfl rfl rfl (by omega) (by omega) (by omega) rfl) rfl ?_
            refine JD1_read 5 rfl (by kernel_rfl) (by kernel_rfl) (by kernel_rfl) rfl rfl (ltn hn rfl) (pure_move rfl rfl) rfl ?_
            refine JD1_read 8 rfl (by kernel_rfl) (by kernel_rfl) (by kernel_rfl) rfl rfl (ltn hn rfl) (pure_move rfl rfl) rfl ?_
            refine JD1_read 9 rfl (by kernel_rfl) (by kernel_rfl) (by kernel_rfl) rfl rfl (ltn hn rfl) (pure_move rfl rfl) rfl ?_
            refine JD1_read 10 rfl (by kernel_rfl) (by kernel_rfl) (by kernel_rfl) rfl rfl (ltn hn rfl) (p_slice_m rfl rfl rfl rfl (by omega) (by omega) (by omega) rfl) rfl ?_
            refine JD1_go ?_
            refine JD_two 0 6 rfl rfl (by kernel_rfl) rfl rfl (@op_lit0 _ _ _ _ _ cI _ _ _ _ _ SlT.slk rfl rfl (ltn hn rfl) rfl) rfl (@op_lit1 _ _ _ _ _ cI _ _ _ _ _ _ _ SlT.slk rfl rfl (ltn hn rfl) rfl rfl rfl rfl rfl) rfl ?_ ?_
            ·
              refine JD_two 4 6 rfl rfl (by kernel_rfl) rfl rfl (op_append_m SlT.slk rfl rfl (ltn hn rfl) rfl rfl (src_sl_m rfl) (by first | omega | (simp only [List.length_append, List.length_cons, List.length_nil, List.length_take, List.length_drop]; omega)) (by first | omega | (simp only [List.length_append, List.length_cons, List.length_nil, List.length_take, List.length_drop]; omega))) rfl (@op_lit1 _ _ _ _ _ cI _ _ _ _ _ _ _ SlT.slk rfl rfl (ltn hn rfl) rfl rfl rfl rfl rfl) rfl ?_ ?_
              ·
                refine JD_only 6 rfl (by kernel_rfl) rfl (@op_lit1 _ _ _ _ _ cI _ _ _ _ _ _ _ SlT.slk rfl rfl (ltn hn rfl) rfl rfl rfl rfl rfl) rfl ?_
                refine JD_only 7 rfl (by kernel_rfl) rfl (op_append_m SlT.slk rfl rfl (ltn hn rfl) rfl rfl (src_own_m rfl rfl) (by first | omega | (simp only [List.length_append, List.length_cons, List.length_nil, List.length_take, List.length_drop]; omega)) (by first | omega | (simp only [List.length_append, List.length_cons, List.length_nil, List.length_take, List.length_drop]; omega))) rfl ?_
                refine JD_only 11 rfl (by kernel_rfl) rfl (op_append_m SlT.slk rfl rfl (ltn hn rfl) rfl rfl (src_sl_m rfl) (by first | omega | (simp only [List.length_append, List.length_cons, List.length_nil, List.length_take, List.length_drop]; omega)) (by first | omega | (simp only [List.length_append, List.length_cons, List.length_nil, List.length_take, List.length_drop]; omega))) rfl ?_
                refine JD_still 12 rfl (by kernel_rfl) (by kernel_rfl) (by kernel_rfl) rfl rfl (ltn hn rfl) (pure_assign rfl rfl) ?_
                refine JD_done (by kernel_rfl) ?_
                refine J_ret ?_
                first | (exact Fin_one rfl (Le_one rfl (congrArg L (put_same (by omega) hc (by assumption))) rfl)) | (exact Fin_one rfl (Le.trans (Le_frz 33 rfl rfl) (Le_one rfl (congrArg L (put_new hi hc (by intro hlt; omega))) rfl)))
              ·
                refine JD_only 4 rfl (by kernel_rfl) rfl (op_append_m SlT.slk rfl rfl (ltn hn rfl) rfl rfl (src_sl_m rfl) (by first | omega | (simp only [List.length_append, List.length_cons, List.length_nil, List.length_take, List.length_drop]; omega)) (by first | omega | (simp only [List.length_append, List.length_cons, List.length_nil, List.length_take, List.length_drop]; omega))) rfl ?_
                refine JD_only 7 rfl (by kernel_rfl) rfl (op_append_m SlT.slk rfl rfl (ltn hn rfl) rfl rfl (src_own_m rfl rfl) (by first | omega | (simp only [List.length_append, List.length_cons, List.length_nil, List.length_take, List.length_drop]; omega)) (by first | omega | (simp only [List.length_append, List.length_cons, List.length_nil, List.length_take, List.length_drop]; omega))) rfl ?_
                refine JD_only 11 rfl (by kernel_rfl) rfl (op_append_m SlT.slk rfl rfl (ltn hn rfl) rfl rfl (src_sl_m rfl) (by first | omega | (simp only [List.length_append, List.length_cons, List.length_nil, List.length_take, List.length_drop]; omega)) (by first | omega | (simp only [List.length_append, List.length_cons, List.length_nil, List.length_take, List.length_drop]; omega))) rfl ?_
                refine JD_still 12 rfl (by kernel_rfl) (by kernel_rfl) (by kernel_rfl) rfl rfl (ltn hn rfl) (pure_assign rfl rfl) ?_
                refine JD_done (by kernel_rfl) ?_
                refine J_ret ?_
                first | (exact Fin_one rfl (Le_one rfl (congrArg L (put_same (by omega) hc (by assumption))) rfl)) | (exact Fin_one rfl (Le.trans (Le_frz 33 rfl rfl) (Le_one rfl (congrArg L (put_new hi hc (by intro hlt; omega))) rfl)))
            ·
              refine JD_only 0 rfl (by kernel_rfl) rfl (@op_lit0 _ _ _ _ _ cI _ _ _ _ _ SlT.slk rfl rfl (ltn hn rfl) rfl) rfl ?_
              refine JD_only 4 rfl (by kernel_rfl) rfl (op_append_m SlT.slk rfl rfl (ltn hn rfl) rfl rfl (src_sl_m rfl) (by first | omega | (simp only [List.length_append, List.length_cons, List.length_nil, List.length_take, List.length_drop]; omega)) (by first | omega | (simp only [List.length_append, List.length_cons, List.length_nil, List.length_take, List.length_drop]; omega))) rfl ?_
              refine JD_only 7 rfl (by kernel_rfl) rfl (op_append_m SlT.slk rfl rfl (ltn hn rfl) rfl rfl (src_own_m rfl rfl) (by first | omega | (simp only [List.length_append, List.length_cons, List.length_nil, List.length_take, List.length_drop]; omega)) (by first | omega | (simp only [List.length_append, List.length_cons, List.length_nil, List.length_take, List.length_drop]; omega))) rfl ?_
              refine JD_only 11 rfl (by kernel_rfl) rfl (op_append_m SlT.slk rfl rfl (ltn hn rfl) rfl rfl (src_sl_m rfl) (by first | omega | (simp only [List.length_append, List.length_cons, List.length_nil, List.length_take, List.length_drop]; omega)) (by first | omega | (simp only [List.length_append, List.length_cons, List.length_nil, List.length_take, List.length_drop]; omega))) rfl ?_
              refine JD_still 12 rfl (by kernel_rfl) (by kernel_rfl) (by kernel_rfl) rfl rfl (ltn hn rfl) (pure_assign rfl rfl) ?_
              refine JD_done (by kernel_rfl) ?_
              refine J_ret ?_
              first | (exact Fin_one rfl (Le_one rfl (congrArg L (put_same (by omega) hc (by assumption))) rfl)) | (exact Fin_one rfl (Le.trans (Le_frz 33 rfl rfl) (Le_one rfl (congrArg L (put_new hi hc (by intro hlt; omega))) rfl)))
        ·
          refine jl_s rfl rfl (ltn hn rfl) ?_
          refine jl_s rfl rfl (ltn hn rfl) ?_
          refine jl_s rfl rfl (ltn hn rfl) ?_
          refine jl_s rfl rfl (ltn hn rfl) ?_
          refine jl_s rfl rfl (ltn hn rfl) ?_
          refine jl_s rfl rfl (ltn hn rfl) ?_
          refine jl rfl rfl (ltn hn rfl) (pure_pick_f rfl rfl rfl) ?_
          refine JL_nil ?_
          refine J_cond_f rfl ?_
          refine J_skip ?_
          refine J_seq ?_
          refine J_mixed [33, 39] follows_mixed (by kernel_rfl) ?_
          refine JD1_read 1 rfl (by kernel_rfl) (by kernel_rfl) (by kernel_rfl) rfl rfl (ltn hn rfl) (pure_move rfl rfl) rfl ?_
          refine JD1_read 2 rfl (by kernel_rfl) (by kernel_rfl) (by kernel_rfl) rfl rfl (ltn hn rfl) (pure_move rfl rfl) rfl ?_
          refine JD1_read 3 rfl (by kernel_rfl) (by kernel_rfl) (by kernel_rfl) rfl rfl (ltn hn rfl) (p_slice_m rfl rfl rfl rfl (by omega) (by omega) (by omega) rfl) rfl ?_
          refine JD1_read 5 rfl (by kernel_rfl) (by kernel_rfl) (by kernel_rfl) rfl rfl (ltn hn rfl) (pure_move rfl rfl) rfl ?_
          refine JD1_read 8 rfl (by kernel_rfl) (by kernel_rfl) (by kernel_rfl) rfl rfl (ltn hn rfl) (pure_move rfl rfl) rfl ?_
          refine JD1_read 9 rfl (by kernel_rfl) (by kernel_rfl) (by kernel_rfl) rfl rfl (ltn hn rfl) (pure_move rfl rfl) rfl ?_
          refine JD1_read 10 rfl (by kernel_rfl) (by kernel_rfl) (by kernel_rfl) rfl rfl (ltn hn rfl) (p_slice_m rfl rfl rfl rfl (by omega) (by omega) (by omega) rfl) rfl ?_
          refine JD1_go ?_
          refine JD_two 0 6 rfl rfl (by kernel_rfl) rfl rfl (@op_lit0 _ _ _ _ _ cI _ _ _ _ _ SlT.slk rfl rfl (ltn hn rfl) rfl) rfl (@op_lit1 _ _ _ _ _ cI _ _ _ _ _ _ _ SlT.slk rfl rfl (ltn hn rfl) rfl rfl rfl rfl rfl) rfl ?_ ?_
          ·
            refine JD_two 4 6 rfl rfl (by kernel_rfl) rfl rfl (op_append_m SlT.slk rfl rfl (ltn hn rfl) rfl rfl (src_sl_m rfl) (by first | omega | (simp only [List.length_append, List.length_cons, List.length_nil, List.length_take, List.length_drop]; omega)) (by first | omega | (simp only [List.length_append, List.length_cons, List.length_nil, List.length_take, List.length_drop]; omega))) rfl (@op_lit1 _ _ _ _ _ cI _ _ _ _ _ _ _ SlT.slk rfl rfl (ltn hn rfl) rfl rfl rfl rfl rfl) rfl ?_ ?_
            ·
              refine JD_only 6 rfl (by kernel_rfl) rfl (@op_lit1 _ _ _ _ _ cI _ _ _ _ _ _ _ SlT.slk rfl rfl (ltn hn rfl) rfl rfl rfl rfl rfl) rfl ?_
              refine JD_only 7 rfl (by kernel_rfl) rfl (op_append_m SlT.slk rfl rfl (ltn hn rfl) rfl rfl (src_own_m rfl rfl) (by first | omega | (simp only [List.length_append, List.length_cons, List.length_nil, List.length_take, List.length_drop]; omega)) (by first | omega | (simp only [List.length_append, List.length_cons, List.length_nil, List.length_take, List.length_drop]; omega))) rfl ?_
              refine JD_only 11 rfl (by kernel_rfl) rfl (op_append_m SlT.slk rfl rfl (ltn hn rfl) rfl rfl (src_sl_m rfl) (by first | omega | (simp only [List.length_append, List.length_cons, List.length_nil, List.length_take, List.length_drop]; omega)) (by first | omega | (simp only [List.length_append, List.length_cons, List.length_nil, List.length_take, List.length_drop]; omega))) rfl ?_
              refine JD_still 12 rfl (by kernel_rfl) (by kernel_rfl) (by kernel_rfl) rfl rfl (ltn hn rfl) (pure_assign rfl rfl) ?_
              refine JD_done (by kernel_rfl) ?_
              refine J_ret ?_
              first | (exact Fin_one rfl (Le_one rfl (congrArg L (put_same (by omega) hc (by assumption))) rfl)) | (exact Fin_one rfl (Le.trans (Le_frz 33 rfl rfl) (Le_one rfl (congrArg L (put_new hi hc (by intro hlt; omega))) rfl)))
            ·
              refine JD_only 4 rfl (by kernel_rfl) rfl (op_append_m SlT.slk rfl rfl (ltn hn rfl) rfl rfl (src_sl_m rfl) (by first | omega | (simp only [List.length_append, List.length_cons, List.length_nil, List.length_take, List.length_drop]; omega)) (by first | omega | (simp only [List.length_append, List.length_cons, List.length_nil, List.length_take, List.length_drop]; omega))) rfl ?_
              refine JD_only 7 rfl (by kernel_rfl) rfl (op_append_m SlT.slk rfl rfl (ltn hn rfl) rfl rfl (src_own_m rfl rfl) (by first | omega | (simp only [List.length_append, List.length_cons, List.length_nil, List.length_take, List.length_drop]; omega)) (by first | omega | (simp only [List.length_append, List.length_cons, List.length_nil, List.length_take, List.length_drop]; omega))) rfl ?_
              refine JD_only 11 rfl (by kernel_rfl) rfl (op_append_m SlT.slk rfl rfl (ltn hn rfl) rfl rfl (src_sl_m rfl) (by first | omega | (simp only [List.length_append, List.length_cons, List.length_nil, List.length_take, List.length_drop]; omega)) (by first | omega | (simp only [List.length_append, List.length_cons, List.length_nil, List.length_take, List.length_drop]; omega))) rfl ?_
              refine JD_still 12 rfl (by kernel_rfl) (by kernel_rfl) (by kernel_rfl) rfl rfl (ltn hn rfl) (pure_assign rfl rfl) ?_
              refine JD_done (by kernel_rfl) ?_
              refine J_ret ?_
              first | (exact Fin_one rfl (Le_one rfl (congrArg L (put_same (by omega) hc (by assumption))) rfl)) | (exact Fin_one rfl (Le.trans (Le_frz 33 rfl rfl) (Le_one rfl (congrArg L (put_new hi hc (by intro hlt; omega))) rfl)))
          ·
            refine JD_only 0 rfl (by kernel_rfl) rfl (@op_lit0 _ _ _ _ _ cI _ _ _ _ _ SlT.slk rfl rfl (ltn hn rfl) rfl) rfl ?_
            refine JD_only 4 rfl (by kernel_rfl) rfl (op_append_m SlT.slk rfl rfl (ltn hn rfl) rfl rfl (src_sl_m rfl) (by first | omega | (simp only [List.length_append, List.length_cons, List.length_nil, List.length_take, List.length_drop]; omega)) (by first | omega | (simp only [List.length_append, List.length_cons, List.length_nil, List.length_take, List.length_drop]; omega))) rfl ?_
            refine JD_only 7 rfl (by kernel_rfl) rfl (op_append_m SlT.slk rfl rfl (ltn hn rfl) rfl rfl (src_own_m rfl rfl) (by first | omega | (simp only [List.length_append, List.length_cons, List.length_nil, List.length_take, List.length_drop]; omega)) (by first | omega | (simp only [List.length_append, List.length_cons, List.length_nil, List.length_take, List.length_drop]; omega))) rfl ?_
            refine JD_only 11 rfl (by kernel_rfl) rfl (op_append_m SlT.slk rfl rfl (ltn hn rfl) rfl rfl (src_sl_m rfl) (by first | omega | (simp only [List.length_append, List.length_cons, List.length_nil, List.length_take, List.length_drop]; omega)) (by first | omega | (simp only [List.length_append, List.length_cons, List.length_nil, List.length_take, List.length_drop]; omega))) rfl ?_
            refine JD_still 12 rfl (by kernel_rfl) (by kernel_rfl) (by kernel_rfl) rfl rfl (ltn hn rfl) (pure_assign rfl rfl) ?_
            refine JD_done (by kernel_rfl) ?_
            refine J_ret ?_
            first | (exact Fin_one rfl (Le_one rfl (congrArg L (put_same (by omega) hc (by assumption))) rfl)) | (exact Fin_one rfl (Le.trans (Le_frz 33 rfl rfl) (Le_one rfl (congrArg L (put_new hi hc (by intro hlt; omega))) rfl)))
    ·
      refine jl_s rfl rfl (ltn hn rfl) ?_
      refine jl_s rfl rfl (ltn hn rfl) ?_
      refine jl_s rfl rfl (ltn hn rfl) ?_
      refine jl_s rfl rfl (ltn hn rfl) ?_
      refine jl_s rfl rfl (ltn hn rfl) ?_
      refine jl_s rfl rfl (ltn hn rfl) ?_
      refine jl rfl rfl (ltn hn rfl) (pure_pick_f rfl rfl rfl) ?_
      refine JL_nil ?_
      refine J_cond_f rfl ?_
      refine J_exit ?_
      refine J_seq ?_
      refine J_seq ?_
      refine J_region ?_
      refine jl rfl rfl (ltn hn rfl) (pure_move rfl rfl) ?_
      refine jl rfl rfl (ltn hn rfl) (pure_move rfl rfl) ?_
      refine jl rfl rfl (ltn hn rfl) (p_len_m rfl rfl) ?_
      refine jl rfl rfl (ltn hn rfl) (pure_lss rfl rfl rfl) ?_
      refine jl rfl rfl (ltn hn rfl) (pure_move rfl rfl) ?_
      refine jl_split rfl rfl rfl (fun h5 => ?_) (fun h5 => ?_)
      ·
        refine jl rfl rfl (ltn hn rfl) (pure_move rfl rfl) ?_
        refine jl rfl rfl (ltn hn rfl) (pure_move rfl rfl) ?_
        refine jl rfl rfl (ltn hn rfl) (p_idx rfl rfl rfl (by omega) (mget (by omega))) ?_
        refine jl rfl rfl (ltn hn rfl) (p_ld rfl rfl rfl) ?_
        refine jl rfl rfl (ltn hn rfl) (pure_move rfl rfl) ?_
        refine jl rfl rfl (ltn hn rfl) (pure_eql rfl rfl rfl) ?_
        refine jl rfl rfl (ltn hn rfl) (pure_pick_t rfl rfl rfl) ?_
        refine JL_nil ?_
        refine J_cond_p rfl (fun h6 => ?_) (fun h6 => ?_)
        ·
          refine J_seq ?_
          refine J_region ?_
          refine jl rfl rfl (ltn hn rfl) (pure_move rfl rfl) ?_
          refine jl rfl rfl (ltn hn rfl) (pure_assign rfl rfl) ?_
          refine JL_nil ?_
          refine J_ret ?_
          first | (exact Fin_one rfl (Le_one rfl (congrArg L (put_same (by omega) hc (by assumption))) rfl)) | (exact Fin_one rfl (Le.trans (Le_frz 33 rfl rfl) (Le_one rfl (congrArg L (put_new hi hc (by intro hlt; omega))) rfl)))
        ·
          refine J_skip ?_
          refine J_seq ?_
          refine J_mixed [33, 39] follows_mixed (by kernel_rfl) ?_
          refine JD1_read 1 rfl (by kernel_rfl) (by kernel_rfl) (by kernel_rfl) rfl rfl (ltn hn rfl) (pure_move rfl rfl) rfl ?_
          refine JD1_read 2 rfl (by kernel_rfl) (by kernel_rfl) (by kernel_rfl) rfl rfl (ltn hn rfl) (pure_move rfl rfl) rfl ?_
          refine JD1_read 3 rfl (by kernel_rfl) (by kernel_rfl) (by kernel_rfl) rfl rfl (ltn hn rfl) (p_slice_m rfl rfl rfl rfl (by omega) (by omega) (by omega) rfl) rfl ?_
          refine JD1_read 5 rfl (by kernel_rfl) (by kernel_rfl) (by kernel_rfl) rfl rfl (ltn hn rfl) (pure_move rfl rfl) rfl ?_
          refine JD1_read 8 rfl (by kernel_rfl) (by kernel_rfl) (by kernel_rfl) rfl rfl (ltn hn rfl) (pure_move rfl rfl) rfl ?_
          refine JD1_read 9 rfl (by kernel_rfl) (by kernel_rfl) (by kernel_rfl) rfl rfl (ltn hn rfl) (pure_move rfl rfl) rfl ?_
          refine JD1_read 10 rfl (by kernel_rfl) (by kernel_rfl) (by kernel_rfl) rfl rfl (ltn hn rfl) (p_slice_m rfl rfl rfl rfl (by omega) (by omega) (by omega) rfl) rfl ?_
          refine JD1_go ?_
          refine JD_two 0 6 rfl rfl (by kernel_rfl) rfl rfl (@op_lit0 _ _ _ _ _ cI _ _ _ _ _ SlT.slk rfl rfl (ltn hn rfl) rfl) rfl (@op_lit1 _ _ _ _ _ cI _ _ _ _ _ _ _ SlT.slk rfl rfl (ltn hn rfl) rfl rfl rfl rfl rfl) rfl ?_ ?_
          ·
            refine JD_two 4 6 rfl rfl (by kernel_rfl) rfl rfl (op_append_m SlT.slk rfl rfl (ltn hn rfl) rfl rfl (src_sl_m rfl) (by first | omega | (simp only [List.length_append, List.length_cons, List.length_nil, List.length_take, List.length_drop]; omega)) (by first | omega | (simp only [List.length_append, List.length_cons, List.length_nil, List.length_take, List.length_drop]; omega))) rfl (@op_lit1 _ _ _ _ _ cI _ _ _ _ _ _ _ SlT.slk rfl rfl (ltn hn rfl) rfl rfl rfl rfl rfl) rfl ?_ ?_
            ·
              refine JD_only 6 rfl (by kernel_rfl) rfl (@op_lit1 _ _ _ _ _ cI _ _ _ _ _ _ _ SlT.slk rfl rfl (ltn hn rfl) rfl rfl rfl rfl rfl) rfl ?_
              refine JD_only 7 rfl (by kernel_rfl) rfl (op_append_m SlT.slk rfl rfl (ltn hn rfl) rfl rfl (src_own_m rfl rfl) (by first | omega | (simp only [List.length_append, List.length_cons, List.length_nil, List.length_take, List.length_drop]; omega)) (by first | omega | (simp only [List.length_append, List.length_cons, List.length_nil, List.length_take, List.length_drop]; omega))) rfl ?_
              refine JD_only 11 rfl (by kernel_rfl) rfl (op_append_m SlT.slk rfl rfl (ltn hn rfl) rfl rfl (src_sl_m rfl) (by first | omega | (simp only [List.length_append, List.length_cons, List.length_nil, List.length_take, List.length_drop]; omega)) (by first | omega | (simp only [List.length_append, List.length_cons, List.length_nil, List.length_take, List.length_drop]; omega))) rfl ?_
              refine JD_still 12 rfl (by kernel_rfl) (by kernel_rfl) (by kernel_rfl) rfl rfl (ltn hn rfl) (pure_assign rfl rfl) ?_
              refine JD_done (by kernel_rfl) ?_
              refine J_ret ?_
              first | (exact Fin_one rfl (Le_one rfl (congrArg L (put_same (by omega) hc (by assumption))) rfl)) | (exact Fin_one rfl (Le.trans (Le_frz 33 rfl rfl) (Le_one rfl (congrArg L (put_new hi hc (by intro hlt; omega))) rfl)))
            ·
              refine JD_only 4 rfl (by kernel_rfl) rfl (op_append_m SlT.slk rfl rfl (ltn hn rfl) rfl rfl (src_sl_m rfl) (by first | omega | (simp only [List.length_append, List.length_cons, List.length_nil, List.length_take, List.length_drop]; omega)) (by first | omega | (simp only [List.length_append, List.length_cons, List.length_nil, List.length_take, List.length_drop]; omega))) rfl ?_
              refine JD_only 7 rfl (by kernel_rfl) rfl (op_append_m SlT.slk rfl rfl (ltn hn rfl) rfl rfl (src_own_m rfl rfl) (by first | omega | (simp only [List.length_append, List.length_cons, List.length_nil, List.length_take, List.length_drop]; omega)) (by first | omega | (simp only [List.length_append, List.length_cons, List.length_nil, List.length_take, List.length_drop]; omega))) rfl ?_
              refine JD_only 11 rfl (by kernel_rfl) rfl (op_append_m SlT.slk rfl rfl (ltn hn rfl) rfl rfl (src_sl_m rfl) (by first | omega | (simp only [List.length_append, List.length_cons, List.length_nil, List.length_take, List.length_drop]; omega)) (by first | omega | (simp only [List.length_append, List.length_cons, List.length_nil, List.length_take, List.length_drop]; omega))) rfl ?_
              refine JD_still 12 rfl (by kernel_rfl) (by kernel_rfl) (by kernel_rfl) rfl rfl (ltn hn rfl) (pure_assign rfl rfl) ?_
              refine JD_done (by kernel_rfl) ?_
              refine J_ret ?_
              first | (exact Fin_one rfl (Le_one rfl (congrArg L (put_same (by omega) hc (by assumption))) rfl)) | (exact Fin_one rfl (Le.trans (Le_frz 33 rfl rfl) (Le_one rfl (congrArg L (put_new hi hc (by intro hlt; omega))) rfl)))
          ·
            refine JD_only 0 rfl (by kernel_rfl) rfl (@op_lit0 _ _ _ _ _ cI _ _ _ _ _ SlT.slk rfl rfl (ltn hn rfl) rfl) rfl ?_
            refine JD_only 4 rfl (by kernel_rfl) rfl (op_append_m SlT.slk rfl rfl (ltn hn rfl) rfl rfl (src_sl_m rfl) (by first | omega | (simp only [List.length_append, List.length_cons, List.length_nil, List.length_take, List.length_drop]; omega)) (by first | omega | (simp only [List.length_append, List.length_cons, List.length_nil, List.length_take, List.length_drop]; omega))) rfl ?_
            refine JD_only 7 rfl (by kernel_rfl) rfl (op_append_m SlT.slk rfl rfl (ltn hn rfl) rfl rfl (src_own_m rfl rfl) (by first | omega | (simp only [List.length_append, List.length_cons, List.length_nil, List.length_take, List.length_drop]; omega)) (by first | omega | (simp only [List.length_append, List.length_cons, List.length_nil, List.length_take, List.length_drop]; omega))) rfl ?_
            refine JD_only 11 rfl (by kernel_rfl) rfl (op_append_m SlT.slk rfl rfl (ltn hn rfl) rfl rfl (src_sl_m rfl) (by first | omega | (simp only [List.length_append, List.length_cons, List.length_nil, List.length_take, List.length_drop]; omega)) (by first | omega | (simp only [List.length_append, List.length_cons, List.length_nil, List.length_take, List.length_drop]; omega))) rfl ?_
            refine JD_still 12 rfl (by kernel_rfl) (by kernel_rfl) (by kernel_rfl) rfl rfl (ltn hn rfl) (pure_assign rfl rfl) ?_
            refine JD_done (by kernel_rfl) ?_
            refine J_ret ?_
            first | (exact Fin_one rfl (Le_one rfl (congrArg L (put_same (by omega) hc (by assumption))) rfl)) | (exact Fin_one rfl (Le.trans (Le_frz 33 rfl rfl) (Le_one rfl (congrArg L (put_new hi hc (by intro hlt; omega))) rfl)))
      ·
        refine jl_s rfl rfl (ltn hn rfl) ?_
        refine jl_s rfl rfl (ltn hn rfl) ?_
        refine jl_s rfl rfl (ltn hn rfl) ?_
        refine jl_s rfl rfl (ltn hn rfl) ?_
        refine jl_s rfl rfl (ltn hn rfl) ?_
        refine jl_s rfl rfl (ltn hn rfl) ?_
        refine jl rfl rfl (ltn hn rfl) (pure_pick_f rfl rfl rfl) ?_
        refine JL_nil ?_
        refine J_cond_f rfl ?_
        refine J_skip ?_
        refine J_seq ?_
        refine J_mixed [33, 39] follows_mixed (by kernel_rfl) ?_
        refine JD1_read 1 rfl (by kernel_rfl) (by kernel_rfl) (by kernel_rfl) rfl rfl (ltn hn rfl) (pure_move rfl rfl) rfl ?_
        refine JD1_read 2 rfl (by kernel_rfl) (by kernel_rfl) (by kernel_rfl) rfl rfl (ltn hn rfl) (pure_move rfl rfl) rfl ?_
        refine JD1_read 3 rfl (by kernel_rfl) (by kernel_rfl) (by kernel_rfl) rfl rfl (ltn hn rfl) (p_slice_m rfl rfl rfl rfl (by omega) (by omega) (by omega) rfl) rfl ?_
        refine JD1_read 5 rfl (by kernel_rfl) (by kernel_rfl) (by kernel_rfl) rfl rfl (ltn hn rfl) (pure_move rfl rfl) rfl ?_
        refine JD1_read 8 rfl (by kernel_rfl) (by kernel_rfl) (by kernel_rfl) rfl rfl (ltn hn rfl) (pure_move rfl rfl) rfl ?_
        refine JD1_read 9 rfl (by kernel_rfl) (by kernel_rfl) (by kernel_rfl) rfl rfl (ltn hn rfl) (pure_move rfl rfl) rfl ?_
        refine JD1_read 10 rfl (by kernel_rfl) (by kernel_rfl) (by kernel_rfl) rfl rfl (ltn hn rfl) (p_slice_m rfl rfl rfl rfl (by omega) (by omega) (by omega) rfl) rfl ?_
        refine JD1_go ?_
        refine JD_two 0 6 rfl rfl (by kernel_rfl) rfl rfl (@op_lit0 _ _ _ _ _ cI _ _ _ _ _ SlT.slk rfl rfl (ltn hn rfl) rfl) rfl (@op_lit1 _ _ _ _ _ cI _ _ _ _ _ _ _ SlT.slk rfl rfl (ltn hn rfl) rfl rfl rfl rfl rfl) rfl ?_ ?_
        ·
          refine JD_two 4 6 rfl rfl (by kernel_rfl) rfl rfl (op_append_m SlT.slk rfl rfl (ltn hn rfl) rfl rfl (src_sl_m rfl) (by first | omega | (simp only [List.length_append, List.length_cons, List.length_nil, List.length_take, List.length_drop]; omega)) (by first | omega | (simp only [List.length_append, List.length_cons, List.length_nil, List.length_take, List.length_drop]; omega))) rfl (@op_lit1 _ _ _ _ _ cI _ _ _ _ _ _ _ SlT.slk rfl rfl (ltn hn rfl) rfl rfl rfl rfl rfl) rfl ?_ ?_
          ·
            refine JD_only 6 rfl (by kernel_rfl) rfl (@op_lit1 _ _ _ _ _ cI _ _ _ _ _ _ _ SlT.slk rfl rfl (ltn hn rfl) rfl rfl rfl rfl rfl) rfl ?_
            refine JD_only 7 rfl (by kernel_rfl) rfl (op_append_m SlT.slk rfl rfl (ltn hn rfl) rfl rfl (src_own_m rfl rfl) (by first | omega | (simp only [List.length_append, List.length_cons, List.length_nil, List.length_take, List.length_drop]; omega)) (by first | omega | (simp only [List.length_append, List.length_cons, List.length_nil, List.length_take, List.length_drop]; omega))) rfl ?_
            refine JD_only 11 rfl (by kernel_rfl) rfl (op_append_m SlT.slk rfl rfl (ltn hn rfl) rfl rfl (src_sl_m rfl) (by first | omega | (simp only [List.length_append, List.length_cons, List.length_nil, List.length_take, List.length_drop]; omega)) (by first | omega | (simp only [List.length_append, List.length_cons, List.length_nil, List.length_take, List.length_drop]; omega))) rfl ?_
            refine JD_still 12 rfl (by kernel_rfl) (by kernel_rfl) (by kernel_rfl) rfl rfl (ltn hn rfl) (pure_assign rfl rfl) ?_
            refine JD_done (by kernel_rfl) ?_
            refine J_ret ?_
            first | (exact Fin_one rfl (Le_one rfl (congrArg L (put_same (by omega) hc (by assumption))) rfl)) | (exact Fin_one rfl (Le.trans (Le_frz 33 rfl rfl) (Le_one rfl (congrArg L (put_new hi hc (by intro hlt; omega))) rfl)))
          ·
            refine JD_only 4 rfl (by kernel_rfl) rfl (op_append_m SlT.slk rfl rfl (ltn hn rfl) rfl rfl (src_sl_m rfl) (by first | omega | (simp only [List.length_append, List.length_cons, List.length_nil, List.length_take, List.length_drop]; omega)) (by first | omega | (simp only [List.length_append, List.length_cons, List.length_nil, List.length_take, List.length_drop]; omega))) rfl ?_
            refine JD_only 7 rfl (by kernel_rfl) rfl (op_append_m SlT.slk rfl rfl (ltn hn rfl) rfl rfl (src_own_m rfl rfl) (by first | omega | (simp only [List.length_append, List.length_cons, List.length_nil, List.length_take, List.length_drop]; omega)) (by first | omega | (simp only [List.length_append, List.length_cons, List.length_nil, List.length_take, List.length_drop]; omega))) rfl ?_
            refine JD_only 11 rfl (by kernel_rfl) rfl (op_append_m SlT.slk rfl rfl (ltn hn rfl) rfl rfl (src_sl_m rfl) (by first | omega | (simp only [List.length_append, List.length_cons, List.length_nil, List.length_take, List.length_drop]; omega)) (by first | omega | (simp only [List.length_append, List.length_cons, List.length_nil, List.length_take, List.length_drop]; omega))) rfl ?_
            refine JD_still 12 rfl (by kernel_rfl) (by kernel_rfl) (by kernel_rfl) rfl rfl (ltn hn rfl) (pure_assign rfl rfl) ?_
            refine JD_done (by kernel_rfl) ?_
            refine J_ret ?_
            first | (exact Fin_one rfl (Le_one rfl (congrArg L (put_same (by omega) hc (by assumption))) rfl)) | (exact Fin_one rfl (Le.trans (Le_frz 33 rfl rfl) (Le_one rfl (congrArg L (put_new hi hc (by intro hlt; omega))) rfl)))
        ·
          refine JD_only 0 rfl (by kernel_rfl) rfl (@op_lit0 _ _ _ _ _ cI _ _ _ _ _ SlT.slk rfl rfl (ltn hn rfl) rfl) rfl ?_
          refine JD_only 4 rfl (by kernel_rfl) rfl (op_append_m SlT.slk rfl rfl (ltn hn rfl) rfl rfl (src_sl_m rfl) (by first | omega | (simp only [List.length_append, List.length_cons, List.length_nil, List.length_take, List.length_drop]; omega)) (by first | omega | (simp only [List.length_append, List.length_cons, List.length_nil, List.length_take, List.length_drop]; omega))) rfl ?_
          refine JD_only 7 rfl (by kernel_rfl) rfl (op_append_m SlT.slk rfl rfl (ltn hn rfl) rfl rfl (src_own_m rfl rfl) (by first | omega | (simp only [List.length_append, List.length_cons, List.length_nil, List.length_take, List.length_drop]; omega)) (by first | omega | (simp only [List.length_append, List.length_cons, List.length_nil, List.length_take, List.length_drop]; omega))) rfl ?_
          refine JD_only 11 rfl (by kernel_rfl) rfl (op_append_m SlT.slk rfl rfl (ltn hn rfl) rfl rfl (src_sl_m rfl) (by first | omega | (simp only [List.length_append, List.length_cons, List.length_nil, List.length_take, List.length_drop]; omega)) (by first | omega | (simp only [List.length_append, List.length_cons, List.length_nil, List.length_take, List.length_drop]; omega))) rfl ?_
          refine JD_still 12 rfl (by kernel_rfl) (by kernel_rfl) (by kernel_rfl) rfl rfl (ltn hn rfl) (pure_assign rfl rfl) ?_
          refine JD_done (by kernel_rfl) ?_
          refine J_ret ?_
          first | (exact Fin_one rfl (Le_one rfl (congrArg L (put_same (by omega) hc (by assumption))) rfl)) | (exact Fin_one rfl (Le.trans (Le_frz 33 rfl rfl) (Le_one rfl (congrArg L (put_new hi hc (by intro hlt; omega))) rfl)))
end Go.Proofs.YtmiijpobhajfmaaGreat.J
namespace Go.Proofs.YtmiijpobhajfmaaGreat.J
open Go Go.RowKit
set_option linter.unusedVariables false
set_option linter.unusedSimpArgs false

def befP (a b : Int × Int) : Bool := decide (a.1 < b.1) || (decide (a.1 = b.1) && decide (a.2 < b.2))
def edgeOK (m : Int) (es : List (Int × Int)) (j : Nat) : Bool := decide (0 ≤ (gi es j).1) && decide ((gi es j).1 ≤ m) && decide (0 ≤ (gi es j).2) && decide ((gi es j).2 ≤ m) && decide ((gi es j).1 < (gi es j).2) && (decide (j = 0) || befP (gi es ((j : Int) - 1)) (gi es j))
def goodG (n : Int) (es : List (Int × Int)) : Bool := decide (0 ≤ n) && decide (n ≤ 8) && (List.range es.length).all (edgeOK (n - 1) es)
theorem range_all_step {p : Nat → Bool} {i : Nat} (h : (List.range i).all p = true) (hp : p i = true) : (List.range (i + 1)).all p = true := by
  rw [List.range_succ, List.all_append, h]
  simp [hp]
theorem good_bad {n : Int} {es : List (Int × Int)} {i : Nat} (h : (i : Int) < es.length) (hp : edgeOK (IntKind.wrap .i64 (n - 1)) es i = false) : goodG n es = false := by
  unfold goodG
  by_cases h1 : 0 ≤ n ∧ n ≤ 8
  · rw [wrap_id (by omega)] at hp
    have : (List.range es.length).all (edgeOK (n - 1) es) = false := by
      rw [List.all_eq_false]
      exact ⟨i, by simp; omega, by simp [hp]⟩
    simp [this]
  · simp only [Bool.and_eq_false_iff, decide_eq_false_iff_not]
    omega
theorem good_end {n : Int} {es : List (Int × Int)} {i : Nat} (hi : i ≤ es.length) (h : ¬ (i : Int) < es.length) (hp : (List.range i).all (edgeOK (IntKind.wrap .i64 (n - 1)) es) = true) : (decide (0 ≤ n) && decide (n ≤ 8)) = goodG n es := by
  unfold goodG
  by_cases h1 : 0 ≤ n ∧ n ≤ 8
  · rw [wrap_id (by omega)] at hp
    obtain rfl : i = es.length := by omega
    rw [hp, Bool.and_true]
  · have : (decide (0 ≤ n) && decide (n ≤ 8)) = false := by
      simp only [Bool.and_eq_false_iff, decide_eq_false_iff_not]
      omega
    rw [this]
    rfl

theorem Before_spec (a b : Int × Int) : Spec Tryz.prog 87 [Pr a, Pr b] (B (befP a b)) [] := by
  refine Spec.intro (c := _) Tryz.func87 rfl (Nat.le_of_ble_eq_true rfl) (fun C hC hfx => ?_)
  have hn : C.n = 24 := hC
  refine (show J _ _ _ _ (⟨[(0, Pr a), (1, Pr b)], []⟩ : AS) from ?_)
  refine J_seq ?_
  refine J_region ?_
  refine jl_o rfl (op_box_agg rfl rfl (ltn hn rfl) rfl rfl rfl) ?_
  refine jl_o rfl (op_box_agg rfl rfl (ltn hn rfl) rfl rfl rfl) ?_
  refine jl rfl rfl (ltn hn rfl) (pure_assign rfl rfl) ?_
  refine JL_nil ?_
  refine J_seq ?_
  refine J_region ?_
  refine jl rfl rfl (ltn hn rfl) (p_idx_ab rfl rfl rfl (by omega) (by omega) rfl) ?_
  refine jl rfl rfl (ltn hn rfl) (p_ld_b rfl rfl rfl rfl) ?_
  refine jl rfl rfl (ltn hn rfl) (p_idx_ab rfl rfl rfl (by omega) (by omega) rfl) ?_
  refine jl rfl rfl (ltn hn rfl) (p_ld_b rfl rfl rfl rfl) ?_
  refine jl rfl rfl (ltn hn rfl) (pure_lss rfl rfl rfl) ?_
  refine jl rfl rfl (ltn hn rfl) (pure_move rfl rfl) ?_
  refine jl_split rfl rfl rfl (fun h1 => ?_) (fun h1 => ?_)
  ·
    refine jl_s rfl rfl (ltn hn rfl) ?_
    refine jl_s rfl rfl (ltn hn rfl) ?_
    refine jl_s rfl rfl (ltn hn rfl) ?_
    refine jl_s rfl rfl (ltn hn rfl) ?_
    refine jl_s rfl rfl (ltn hn rfl) ?_
    refine jl_s rfl rfl (ltn hn rfl) ?_
    refine jl_s rfl rfl (ltn hn rfl) ?_
    refine jl_s rfl rfl (ltn hn rfl) ?_
    refine jl_s rfl rfl (ltn hn rfl) ?_
    refine jl_s rfl rfl (ltn hn rfl) ?_
    refine jl_s rfl rfl (ltn hn rfl) ?_
    refine jl_s rfl rfl (ltn hn rfl) ?_
    refine jl rfl rfl (ltn hn rfl) (pure_pick_t rfl rfl rfl) ?_
    refine jl rfl rfl (ltn hn rfl) (pure_assign rfl rfl) ?_
    refine JL_nil ?_
    refine J_ret ?_
    exact Fin_one rfl (Le_one rfl (vb (by simp_all [befP] <;> omega)) rfl)
  ·
    refine jl rfl rfl (ltn hn rfl) (p_idx_ab rfl rfl rfl (by omega) (by omega) rfl) ?_
    refine jl rfl rfl (ltn hn rfl) (p_ld_b rfl rfl rfl rfl) ?_
    refine jl rfl rfl (ltn hn rfl) (p_idx_ab rfl rfl rfl (by omega) (by omega) rfl) ?_
    refine jl rfl rfl (ltn hn rfl) (p_ld_b rfl rfl rfl rfl) ?_
    refine jl rfl rfl (ltn hn rfl) (pure_eql rfl rfl rfl) ?_
    refine jl rfl rfl (ltn hn rfl) (pure_move rfl rfl) ?_
    refine jl_split rfl rfl rfl (fun h2 => ?_) (fun h2 => ?_)
    ·
      refine jl rfl rfl (ltn hn rfl) (p_idx_ab rfl rfl rfl (by omega) (by omega) rfl) ?_
      refine jl rfl rfl (ltn hn rfl) (p_ld_b rfl rfl rfl rfl) ?_
      refine jl rfl rfl (ltn hn rfl) (p_idx_ab rfl rfl rfl (by omega) (by omega) rfl) ?_
      refine jl rfl rfl (ltn hn rfl) (p_ld_b rfl rfl rfl rfl) ?_
      refine jl rfl rfl (ltn hn rfl) (pure_lss rfl rfl rfl) ?_
      refine jl rfl rfl (ltn hn rfl) (pure_pick_t rfl rfl rfl) ?_
      refine jl rfl rfl (ltn hn rfl) (pure_pick_f rfl rfl rfl) ?_
      refine jl rfl rfl (ltn hn rfl) (pure_assign rfl rfl) ?_
      refine JL_nil ?_
      refine J_ret ?_
      exact Fin_one rfl (Le_one rfl (vb (by simp_all [befP] <;> omega)) rfl)
    ·
      refine jl_s rfl rfl (ltn hn rfl) ?_
      refine jl_s rfl rfl (ltn hn rfl) ?_
      refine jl_s rfl rfl (ltn hn rfl) ?_
      refine jl_s rfl rfl (ltn hn rfl) ?_
      refine jl_s rfl rfl (ltn hn rfl) ?_
      refine jl rfl rfl (ltn hn rfl) (pure_pick_f rfl rfl rfl) ?_
      refine jl rfl rfl (ltn hn rfl) (pure_pick_f rfl rfl rfl) ?_
      refine jl rfl rfl (ltn hn rfl) (pure_assign rfl rfl) ?_
      refine JL_nil ?_
      refine J_ret ?_
      exact Fin_one rfl (Le_one rfl (vb (by simp_all [befP] <;> omega)) rfl)
theorem Good_spec (n : Int) (es : List (Int × Int)) (hl : es.length < 2^40) : Spec Tryz.prog 48 [Gr n es] (B (goodG n es)) [] := by
  refine Spec.intro (c := _) Tryz.func48 rfl (Nat.le_of_ble_eq_true rfl) (fun C hC hfx => ?_)
  have hn : C.n = 58 := hC
  refine (show J _ _ _ _ (⟨[(0, Gr n es)], []⟩ : AS) from ?_)
  refine J_seq ?_
  refine J_region ?_
  refine jl_o rfl (op_box_agg rfl rfl (ltn hn rfl) rfl rfl rfl) ?_
  refine jl rfl rfl (ltn hn rfl) (pure_assign rfl rfl) ?_
  refine JL_nil ?_
  refine J_seq ?_
  refine J_seq ?_
  refine J_region ?_
  refine jl rfl rfl (ltn hn rfl) (pure_assign rfl rfl) ?_
  refine JL_nil ?_
  refine J_block ?_
  refine J_loop (X := Nat) (fun i => ⟨[(1, .box 1 0), (3, I (i : Nat))], [(1, .box 30 [I n, LP es])]⟩) (fun i => i ≤ es.length ∧ (List.range i).all (edgeOK (IntKind.wrap .i64 (n - 1)) es) = true) (fun i => es.length - i) 0 ?_ ?_ ?_
  · exact ⟨by simp, by simp⟩
  ·
    refine Le_sub C _ _ ⟨rfl, ⟨rfl, trivial⟩⟩ ⟨rfl, trivial⟩ rfl rfl
  ·
    intro i hR
    obtain ⟨hi, hc⟩ := hR
    refine J_seq ?_
    refine J_seq ?_
    refine J_region ?_
    refine jl rfl rfl (ltn hn rfl) (pure_move rfl rfl) ?_
    refine jl rfl rfl (ltn hn rfl) (p_fld_b rfl rfl rfl) ?_
    refine jl rfl rfl (ltn hn rfl) (p_ld_b rfl rfl rfl rfl) ?_
    refine jl rfl rfl (ltn hn rfl) (p_len_m rfl rfl) ?_
    refine jl rfl rfl (ltn hn rfl) (pure_lss rfl rfl rfl) ?_
    refine JL_nil ?_
    refine J_cond_p rfl (fun h1 => ?_) (fun h1 => ?_)
    ·
      refine J_skip ?_
      refine J_seq ?_
      refine J_block ?_
      refine J_seq ?_
      refine J_region ?_
      refine jl rfl rfl (ltn hn rfl) (p_fld_b rfl rfl rfl) ?_
      refine jl rfl rfl (ltn hn rfl) (p_ld_b rfl rfl rfl rfl) ?_
      refine jl rfl rfl (ltn hn rfl) (pure_move rfl rfl) ?_
      refine jl rfl rfl (ltn hn rfl) (p_idx rfl rfl rfl (by omega) (mget (by omega))) ?_
      refine jl rfl rfl (ltn hn rfl) (p_ld_a rfl rfl (Nat.le_of_ble_eq_true rfl) rfl) ?_
      refine jl_o rfl (@op_alloc _ _ _ _ _ _ _ rfl ZrT.out rfl rfl (ltn hn rfl) rfl) ?_
      refine jl_o rfl (op_store_box_agg rfl rfl (by exact SzT.out) rfl rfl (by exact Nat.le_of_ble_eq_true rfl) rfl rfl) ?_
      refine JL_nil ?_
      refine J_seq ?_
      refine J_draw follows_mixed (by kernel_rfl) ?_
      refine jq rfl rfl (ltn hn rfl) (p_idx_ab rfl rfl rfl (by omega) (by omega) rfl) ?_
      refine jq rfl rfl (ltn hn rfl) (p_ld_b rfl rfl rfl rfl) ?_
      refine jq rfl rfl (ltn hn rfl) (p_fld_b rfl rfl rfl) ?_
      refine jq rfl rfl (ltn hn rfl) (p_ld_b rfl rfl rfl rfl) ?_
      refine jq rfl rfl (ltn hn rfl) (p_sub_w rfl rfl rfl) ?_
      refine JQ_call (args := [.tmp 18, .const (.int .i64 0), .tmp 21]) rfl (In_spec _ _ _) rfl Tryz.func82 rfl rfl rfl (ltn hn rfl) ⟨rfl, rfl, ⟨rfl, rfl, ⟨rfl, rfl, trivial⟩⟩⟩ ?_
      refine jq rfl rfl (ltn hn rfl) (pure_not_b rfl rfl) ?_
      refine jq rfl rfl (ltn hn rfl) (pure_move rfl rfl) ?_
      refine jq_split_b rfl rfl rfl (fun h2 => ?_) (fun h2 => ?_)
      ·
        refine jq_s rfl rfl (ltn hn rfl) ?_
        refine jq_s rfl rfl (ltn hn rfl) ?_
        refine jq_s rfl rfl (ltn hn rfl) ?_
        refine jq_s rfl rfl (ltn hn rfl) ?_
        refine jq_s rfl rfl (ltn hn rfl) ?_
        refine jq_s rfl rfl (ltn hn rfl) ?_
        refine jq_s rfl rfl (ltn hn rfl) ?_
        refine jq rfl rfl (ltn hn rfl) (pure_pick_t rfl rfl rfl) ?_
        refine jq rfl rfl (ltn hn rfl) (pure_move rfl rfl) ?_
        refine jq_s rfl rfl (ltn hn rfl) ?_
        refine jq_s rfl rfl (ltn hn rfl) ?_
        refine jq_s rfl rfl (ltn hn rfl) ?_
        refine jq_s rfl rfl (ltn hn rfl) ?_
        refine jq_s rfl rfl (ltn hn rfl) ?_
        refine jq rfl rfl (ltn hn rfl) (pure_pick_t rfl rfl rfl) ?_
        refine jq rfl rfl (ltn hn rfl) (pure_move rfl rfl) ?_
        refine jq_s rfl rfl (ltn hn rfl) ?_
        refine jq_s rfl rfl (ltn hn rfl) ?_
        refine jq_s rfl rfl (ltn hn rfl) ?_
        refine jq_s rfl rfl (ltn hn rfl) ?_
        refine jq_s rfl rfl (ltn hn rfl) ?_
        refine jq_s rfl rfl (ltn hn rfl) ?_
        refine jq_s rfl rfl (ltn hn rfl) ?_
        refine jq_s rfl rfl (ltn hn rfl) ?_
        refine jq_s rfl rfl (ltn hn rfl) ?_
        refine jq_s rfl rfl (ltn hn rfl) ?_
        refine jq_s rfl rfl (ltn hn rfl) ?_
        refine jq_s rfl rfl (ltn hn rfl) ?_
        refine jq_s rfl rfl (ltn hn rfl) ?_
        refine jq rfl rfl (ltn hn rfl) (pure_pick_t rfl rfl rfl) ?_
        refine JQ_nil ?_
        refine J_cond_t rfl ?_
        refine J_seq ?_
        refine J_region ?_
        refine jl rfl rfl (ltn hn rfl) (pure_assign rfl rfl) ?_
        refine JL_nil ?_
        refine J_ret ?_
        first | (exact Fin_one rfl (Le_one rfl (vb (good_end hi h1 hc)) rfl)) | exact Fin_one rfl (Le_one rfl (vb (good_bad h1 (by simp_all [edgeOK] <;> omega)).symm) rfl)
      ·
        refine jq rfl rfl (ltn hn rfl) (p_idx_ab rfl rfl rfl (by omega) (by omega) rfl) ?_
        refine jq rfl rfl (ltn hn rfl) (p_ld_b rfl rfl rfl rfl) ?_
        refine jq rfl rfl (ltn hn rfl) (p_fld_b rfl rfl rfl) ?_
        refine jq rfl rfl (ltn hn rfl) (p_ld_b rfl rfl rfl rfl) ?_
        refine jq rfl rfl (ltn hn rfl) (p_sub_w rfl rfl rfl) ?_
        refine JQ_call (args := [.tmp 26, .const (.int .i64 0), .tmp 29]) rfl (In_spec _ _ _) rfl Tryz.func82 rfl rfl rfl (ltn hn rfl) ⟨rfl, rfl, ⟨rfl, rfl, ⟨rfl, rfl, trivial⟩⟩⟩ ?_
        refine jq rfl rfl (ltn hn rfl) (pure_not_b rfl rfl) ?_
        refine jq rfl rfl (ltn hn rfl) (pure_pick_f rfl rfl rfl) ?_
        refine jq rfl rfl (ltn hn rfl) (pure_move rfl rfl) ?_
        refine jq_split_b rfl rfl rfl (fun h3 => ?_) (fun h3 => ?_)
        ·
          refine jq_s rfl rfl (ltn hn rfl) ?_
          refine jq_s rfl rfl (ltn hn rfl) ?_
          refine jq_s rfl rfl (ltn hn rfl) ?_
          refine jq_s rfl rfl (ltn hn rfl) ?_
          refine jq_s rfl rfl (ltn hn rfl) ?_
          refine jq rfl rfl (ltn hn rfl) (pure_pick_t rfl rfl rfl) ?_
          refine jq rfl rfl (ltn hn rfl) (pure_move rfl rfl) ?_
          refine jq_s rfl rfl (ltn hn rfl) ?_
          refine jq_s rfl rfl (ltn hn rfl) ?_
          refine jq_s rfl rfl (ltn hn rfl) ?_
          refine jq_s rfl rfl (ltn hn rfl) ?_
          refine jq_s rfl rfl (ltn hn rfl) ?_
          refine jq_s rfl rfl (ltn hn rfl) ?_
          refine jq_s rfl rfl (ltn hn rfl) ?_
          refine jq_s rfl rfl (ltn hn rfl) ?_
          refine jq_s rfl rfl (ltn hn rfl) ?_
          refine jq_s rfl rfl (ltn hn rfl) ?_
          refine jq_s rfl rfl (ltn hn rfl) ?_
          refine jq_s rfl rfl (ltn hn rfl) ?_
          refine jq_s rfl rfl (ltn hn rfl) ?_
          refine jq rfl rfl (ltn hn rfl) (pure_pick_t rfl rfl rfl) ?_
          refine JQ_nil ?_
          refine J_cond_t rfl ?_
          refine J_seq ?_
          refine J_region ?_
          refine jl rfl rfl (ltn hn rfl) (pure_assign rfl rfl) ?_
          refine JL_nil ?_
          refine J_ret ?_
          first | (exact Fin_one rfl (Le_one rfl (vb (good_end hi h1 hc)) rfl)) | exact Fin_one rfl (Le_one rfl (vb (good_bad h1 (by simp_all [edgeOK] <;> omega)).symm) rfl)
        ·
          refine jq rfl rfl (ltn hn rfl) (p_idx_ab rfl rfl rfl (by omega) (by omega) rfl) ?_
          refine jq rfl rfl (ltn hn rfl) (p_ld_b rfl rfl rfl rfl) ?_
          refine jq rfl rfl (ltn hn rfl) (p_idx_ab rfl rfl rfl (by omega) (by omega) rfl) ?_
          refine jq rfl rfl (ltn hn rfl) (p_ld_b rfl rfl rfl rfl) ?_
          refine jq rfl rfl (ltn hn rfl) (pure_geq rfl rfl rfl) ?_
          refine jq rfl rfl (ltn hn rfl) (pure_pick_f rfl rfl rfl) ?_
          refine jq rfl rfl (ltn hn rfl) (pure_move rfl rfl) ?_
          refine jq_split rfl rfl rfl (fun h4 => ?_) (fun h4 => ?_)
          ·
            refine jq_s rfl rfl (ltn hn rfl) ?_
            refine jq_s rfl rfl (ltn hn rfl) ?_
            refine jq_s rfl rfl (ltn hn rfl) ?_
            refine jq_s rfl rfl (ltn hn rfl) ?_
            refine jq_s rfl rfl (ltn hn rfl) ?_
            refine jq_s rfl rfl (ltn hn rfl) ?_
            refine jq_s rfl rfl (ltn hn rfl) ?_
            refine jq_s rfl rfl (ltn hn rfl) ?_
            refine jq_s rfl rfl (ltn hn rfl) ?_
            refine jq_s rfl rfl (ltn hn rfl) ?_
            refine jq_s rfl rfl (ltn hn rfl) ?_
            refine jq_s rfl rfl (ltn hn rfl) ?_
            refine jq_s rfl rfl (ltn hn rfl) ?_
            refine jq rfl rfl (ltn hn rfl) (pure_pick_t rfl rfl rfl) ?_
            refine JQ_nil ?_
            refine J_cond_t rfl ?_
            refine J_seq ?_
            refine J_region ?_
            refine jl rfl rfl (ltn hn rfl) (pure_assign rfl rfl) ?_
            refine JL_nil ?_
            refine J_ret ?_
            first | (exact Fin_one rfl (Le_one rfl (vb (good_end hi h1 hc)) rfl)) | exact Fin_one rfl (Le_one rfl (vb (good_bad h1 (by simp_all [edgeOK] <;> omega)).symm) rfl)
          ·
            refine jq rfl rfl (ltn hn rfl) (pure_move rfl rfl) ?_
            refine jq rfl rfl (ltn hn rfl) (pure_gtr rfl rfl rfl) ?_
            refine jq rfl rfl (ltn hn rfl) (pure_move rfl rfl) ?_
            refine jq_split rfl rfl rfl (fun h5 => ?_) (fun h5 => ?_)
            ·
              refine jq rfl rfl (ltn hn rfl) (p_fld_b rfl rfl rfl) ?_
              refine jq rfl rfl (ltn hn rfl) (p_ld_b rfl rfl rfl rfl) ?_
              refine jq rfl rfl (ltn hn rfl) (pure_move rfl rfl) ?_
              refine jq rfl rfl (ltn hn rfl) (pure_sub rfl rfl rfl (by omega)) ?_
              refine jq rfl rfl (ltn hn rfl) (p_idx rfl rfl rfl (by omega) (mget (by omega))) ?_
              refine jq rfl rfl (ltn hn rfl) (p_ld_a rfl rfl (Nat.le_of_ble_eq_true rfl) rfl) ?_
              refine jq rfl rfl (ltn hn rfl) (p_ld_ba rfl rfl rfl (Nat.le_of_ble_eq_true rfl) rfl) ?_
              refine JQ_call (args := [.tmp 49, .tmp 50]) rfl (Before_spec _ _) rfl Tryz.func87 rfl rfl rfl (ltn hn rfl) ⟨rfl, rfl, ⟨rfl, rfl, trivial⟩⟩ ?_
              refine jq rfl rfl (ltn hn rfl) (pure_not_b rfl rfl) ?_
              refine jq rfl rfl (ltn hn rfl) (pure_pick_t rfl rfl rfl) ?_
              refine jq rfl rfl (ltn hn rfl) (pure_pick_f rfl rfl rfl) ?_
              refine JQ_nil ?_
              refine J_cond rfl (fun h6 => ?_) (fun h6 => ?_)
              ·
                refine J_seq ?_
                refine J_region ?_
                refine jl rfl rfl (ltn hn rfl) (pure_assign rfl rfl) ?_
                refine JL_nil ?_
                refine J_ret ?_
                first | (exact Fin_one rfl (Le_one rfl (vb (good_end hi h1 hc)) rfl)) | exact Fin_one rfl (Le_one rfl (vb (good_bad h1 (by simp_all [edgeOK] <;> omega)).symm) rfl)
              ·
                refine J_skip ?_
                refine J_region ?_
                refine jl rfl rfl (ltn hn rfl) (pure_move rfl rfl) ?_
                refine jl rfl rfl (ltn hn rfl) (pure_add rfl rfl rfl (by omega)) ?_
                refine jl rfl rfl (ltn hn rfl) (pure_assign rfl rfl) ?_
                refine JL_nil ?_
                refine ⟨i + 1, ?_, ?_, ?_⟩
                · exact ⟨by omega, range_all_step hc (by simp_all [edgeOK] <;> omega)⟩
                · omega
                ·
                  refine Le_sub C _ _ ⟨rfl, ⟨(eqv rfl (vi (by omega))), trivial⟩⟩ ⟨rfl, trivial⟩ rfl rfl
            ·
              refine jq_s rfl rfl (ltn hn rfl) ?_
              refine jq_s rfl rfl (ltn hn rfl) ?_
              refine jq_s rfl rfl (ltn hn rfl) ?_
              refine jq_s rfl rfl (ltn hn rfl) ?_
              refine jq_s rfl rfl (ltn hn rfl) ?_
              refine jq_s rfl rfl (ltn hn rfl) ?_
              refine jq_s rfl rfl (ltn hn rfl) ?_
              refine jq_s rfl rfl (ltn hn rfl) ?_
              refine jq_s rfl rfl (ltn hn rfl) ?_
              refine jq rfl rfl (ltn hn rfl) (pure_pick_f rfl rfl rfl) ?_
              refine jq rfl rfl (ltn hn rfl) (pure_pick_f rfl rfl rfl) ?_
              refine JQ_nil ?_
              refine J_cond_f rfl ?_
              refine J_skip ?_
              refine J_region ?_
              refine jl rfl rfl (ltn hn rfl) (pure_move rfl rfl) ?_
              refine jl rfl rfl (ltn hn rfl) (pure_add rfl rfl rfl (by omega)) ?_
              refine jl rfl rfl (ltn hn rfl) (pure_assign rfl rfl) ?_
              refine JL_nil ?_
              refine ⟨i + 1, ?_, ?_, ?_⟩
              · exact ⟨by omega, range_all_step hc (by simp_all [edgeOK] <;> omega)⟩
              · omega
              ·
                refine Le_sub C _ _ ⟨rfl, ⟨(eqv rfl (vi (by omega))), trivial⟩⟩ ⟨rfl, trivial⟩ rfl rfl
    ·
      refine J_exit ?_
      refine J_seq ?_
      refine J_region ?_
      refine jl rfl rfl (ltn hn rfl) (p_fld_b rfl rfl rfl) ?_
      refine jl rfl rfl (ltn hn rfl) (p_ld_b rfl rfl rfl rfl) ?_
      refine jl_o rfl (@op_call _ _ _ _ _ _ [.tmp 56, .const (.int .i64 0), .const (.int .i64 8)] _ _ _ _ _ (In_spec _ _ _) rfl Tryz.func82 rfl rfl rfl (ltn hn rfl) ⟨rfl, rfl, ⟨rfl, rfl, ⟨rfl, rfl, trivial⟩⟩⟩ rfl rfl) ?_
      refine jl rfl rfl (ltn hn rfl) (pure_assign rfl rfl) ?_
      refine JL_nil ?_
      refine J_ret ?_
      first | (exact Fin_one rfl (Le_one rfl (vb (good_end hi h1 hc)) rfl)) | exact Fin_one rfl (Le_one rfl (vb (good_bad h1 (by simp_all [edgeOK] <;> omega)).symm) rfl)
end Go.Proofs.YtmiijpobhajfmaaGreat.J
namespace Go.Proofs.YtmiijpobhajfmaaGreat.J
open Go Go.RowKit
set_option linter.unusedVariables false
set_option linter.unusedSimpArgs false

def fieldG (n : Int) (es : List (Int × Int)) (k : Int) : Bool := goodG n es && decide (0 < n) && (decide (1 ≤ k) && decide (k ≤ 3))
def nearE (a b : Int) (e : Int × Int) : Bool := (decide (e.1 = a) && decide (e.2 = b)) || (decide (e.1 = b) && decide (e.2 = a))
def nearG (es : List (Int × Int)) (a b : Int) : Bool := es.any (nearE a b)
def ints (n : Nat) : List Int := (List.range n).map (fun (i : Nat) => (i : Int))
def nbG (n : Nat) (es : List (Int × Int)) (x : Int) : List Int := (ints n).filter (nearG es x)
def ballG (n : Nat) (es : List (Int × Int)) (x : Int) : List Int := putL (nbG n es x) x
def bitT (code x : Int) : Bool := decide (Go.bits .and .i64 (code / 2 ^ min x.toNat (IntKind.bits .i64)) 1 = 1)
def bitsL (n : Nat) (code : Int) : List Int := (ints n).filter (bitT code)
def numL (l : List Int) : Int := (l.map (fun x => (2 : Int) ^ x.toNat)).sum
def restL (s c : List Int) : List Int := s.filter (fun x => !c.contains x)
theorem ints_succ (n : Nat) : ints (n + 1) = ints n ++ [(n : Int)] := by simp [ints, List.range_succ]
theorem ints_length (n : Nat) : (ints n).length = n := by simp [ints]
theorem any_step {α : Type} [Inhabited α] {l : List α} {p : α → Bool} {i : Nat} (h : (i : Int) < l.length) (hc : (l.take i).any p = false) (hn : p (gi l i) = false) : (l.take (i + 1)).any p = false := by
  rw [take_gi (by omega), List.any_append, hc]
  simp [hn]
theorem gi_mem {α : Type} [Inhabited α] {l : List α} {i : Nat} (h : (i : Int) < l.length) : gi l i ∈ l := by
  simp only [gi, List.getD]
  rw [List.getElem?_eq_getElem (by omega)]
  exact List.getElem_mem _
theorem any_hit {α : Type} [Inhabited α] {l : List α} {p : α → Bool} {i : Nat} (h : (i : Int) < l.length) (hn : p (gi l i) = true) : l.any p = true := List.any_eq_true.2 ⟨_, gi_mem h, hn⟩
theorem filt_t {α : Type} {l : List α} {p : α → Bool} {x : α} (h : p x = true) : l.filter p ++ [x] = (l ++ [x]).filter p := by simp [h]
theorem filt_f {α : Type} {l : List α} {p : α → Bool} {x : α} (h : p x = false) : l.filter p = (l ++ [x]).filter p := by simp [h]
theorem filter_len {α : Type} (l : List α) (p : α → Bool) : (l.filter p).length ≤ l.length := List.length_filter_le _ _
theorem shl1 {x : Int} (h : 0 ≤ x ∧ x ≤ 8) : IntKind.wrap .i64 (1 * 2 ^ min x.toNat (IntKind.bits .i64)) = 2 ^ x.toNat ∧ (1 : Int) ≤ 2 ^ x.toNat ∧ (2 : Int) ^ x.toNat ≤ 256 := by
  obtain ⟨k, rfl⟩ : ∃ k : Nat, x = k := ⟨x.toNat, by omega⟩
  have hk : k ≤ 8 := by omega
  have : ∀ k, k ≤ 8 → IntKind.wrap .i64 (1 * 2 ^ min ((k : Nat) : Int).toNat (IntKind.bits .i64)) = 2 ^ ((k : Nat) : Int).toNat ∧ (1 : Int) ≤ 2 ^ ((k : Nat) : Int).toNat ∧ (2 : Int) ^ ((k : Nat) : Int).toNat ≤ 256 := by decide
  exact this k hk
theorem bitsAll (n : Nat) (h : n ≤ 8) : bitsL n (2 ^ n - 1) = ints n := by
  have : ∀ n, n ≤ 8 → bitsL n (2 ^ n - 1) = ints n := by decide
  exact this n h
theorem numL_snoc (l : List Int) (x : Int) : numL (l ++ [x]) = numL l + 2 ^ x.toNat := by simp [numL]
theorem putL_len (l : List Int) (n : Int) : (putL l n).length ≤ l.length + 1 := by
  have h := congrArg List.length (List.takeWhile_append_dropWhile (p := fun x : Int => decide (x < n)) (l := l))
  simp only [List.length_append] at h
  unfold putL
  split <;> simp only [List.length_append, List.length_nil, List.length_cons] <;> omega
theorem fold_put_len (l : List Int) : ∀ s : List Int, (l.foldl putL s).length ≤ s.length + l.length := by
  induction l with
  | nil => simp
  | cons a r ih =>
    intro s
    have h1 := ih (putL s a)
    have h2 := putL_len s a
    simp only [List.foldl_cons, List.length_cons]
    omega
def nextS (balls : List (List Int)) (c : List Int) (out : List Int) (x : Int) : List Int := (restL (gi balls x) c).foldl putL out
def nextL (balls : List (List Int)) (u c : List Int) : List Int := (restL u c).foldl (nextS balls c) []

theorem Field_spec (n : Int) (es : List (Int × Int)) (k : Int) (hl : es.length < 2^40) : Spec Tryz.prog 62 [Gr n es, I k] (B (fieldG n es k)) [] := by
  refine Spec.intro (c := _) Tryz.func62 rfl (Nat.le_of_ble_eq_true rfl) (fun C hC hfx => ?_)
  have hn : C.n = 16 := hC
  refine (show J _ _ _ _ (⟨[(0, Gr n es), (1, I k)], []⟩ : AS) from ?_)
  refine J_seq ?_
  refine J_region ?_
  refine jl_o rfl (op_box_agg rfl rfl (ltn hn rfl) rfl rfl rfl) ?_
  refine jl rfl rfl (ltn hn rfl) (pure_assign rfl rfl) ?_
  refine JL_nil ?_
  refine J_seq ?_
  refine J_region ?_
  refine jl rfl rfl (ltn hn rfl) (p_ld_ba rfl rfl rfl (Nat.le_of_ble_eq_true rfl) rfl) ?_
  refine jl_o rfl (@op_call _ _ _ _ _ _ [.tmp 5] _ _ _ _ _ (Good_spec _ _ (by omega)) rfl Tryz.func48 rfl rfl rfl (ltn hn rfl) ⟨rfl, rfl, trivial⟩ rfl rfl) ?_
  refine jl rfl rfl (ltn hn rfl) (pure_move rfl rfl) ?_
  refine jl_split_b rfl rfl rfl (fun h1 => ?_) (fun h1 => ?_)
  ·
    refine jl rfl rfl (ltn hn rfl) (p_fld_b rfl rfl rfl) ?_
    refine jl rfl rfl (ltn hn rfl) (p_ld_b rfl rfl rfl rfl) ?_
    refine jl rfl rfl (ltn hn rfl) (pure_gtr rfl rfl rfl) ?_
    refine jl rfl rfl (ltn hn rfl) (pure_pick_t rfl rfl rfl) ?_
    refine jl rfl rfl (ltn hn rfl) (pure_move rfl rfl) ?_
    refine jl_split rfl rfl rfl (fun h2 => ?_) (fun h2 => ?_)
    ·
      refine jl rfl rfl (ltn hn rfl) (pure_move rfl rfl) ?_
      refine jl_o rfl (@op_call _ _ _ _ _ _ [.tmp 13, .const (.int .i64 1), .const (.int .i64 3)] _ _ _ _ _ (In_spec _ _ _) rfl Tryz.func82 rfl rfl rfl (ltn hn rfl) ⟨rfl, rfl, ⟨rfl, rfl, ⟨rfl, rfl, trivial⟩⟩⟩ rfl rfl) ?_
      refine jl rfl rfl (ltn hn rfl) (pure_pick_t rfl rfl rfl) ?_
      refine jl rfl rfl (ltn hn rfl) (pure_assign rfl rfl) ?_
      refine JL_nil ?_
      refine J_ret ?_
      exact Fin_one rfl (Le_one rfl (vb (by simp_all [fieldG] <;> (intros; omega))) rfl)
    ·
      refine jl_s rfl rfl (ltn hn rfl) ?_
      refine jl_s rfl rfl (ltn hn rfl) ?_
      refine jl rfl rfl (ltn hn rfl) (pure_pick_f rfl rfl rfl) ?_
      refine jl rfl rfl (ltn hn rfl) (pure_assign rfl rfl) ?_
      refine JL_nil ?_
      refine J_ret ?_
      exact Fin_one rfl (Le_one rfl (vb (by simp_all [fieldG] <;> (intros; omega))) rfl)
  ·
    refine jl_s rfl rfl (ltn hn rfl) ?_
    refine jl_s rfl rfl (ltn hn rfl) ?_
    refine jl_s rfl rfl (ltn hn rfl) ?_
    refine jl rfl rfl (ltn hn rfl) (pure_pick_f rfl rfl rfl) ?_
    refine jl rfl rfl (ltn hn rfl) (pure_move rfl rfl) ?_
    refine jl_s rfl rfl (ltn hn rfl) ?_
    refine jl_s rfl rfl (ltn hn rfl) ?_
    refine jl rfl rfl (ltn hn rfl) (pure_pick_f rfl rfl rfl) ?_
    refine jl rfl rfl (ltn hn rfl) (pure_assign rfl rfl) ?_
    refine JL_nil ?_
    refine J_ret ?_
    exact Fin_one rfl (Le_one rfl (vb (by simp_all [fieldG] <;> (intros; omega))) rfl)
theorem Near_spec (n : Int) (es : List (Int × Int)) (a b : Int) (hl : es.length < 2^40) : Spec Tryz.prog 133 [Gr n es, I a, I b] (B (nearG es a b)) [] := by
  refine Spec.intro (c := _) Tryz.func133 rfl (Nat.le_of_ble_eq_true rfl) (fun C hC hfx => ?_)
  have hn : C.n = 43 := hC
  refine (show J _ _ _ _ (⟨[(0, Gr n es), (1, I a), (2, I b)], []⟩ : AS) from ?_)
  refine J_seq ?_
  refine J_region ?_
  refine jl_o rfl (op_box_agg rfl rfl (ltn hn rfl) rfl rfl rfl) ?_
  refine jl rfl rfl (ltn hn rfl) (pure_assign rfl rfl) ?_
  refine JL_nil ?_
  refine J_seq ?_
  refine J_seq ?_
  refine J_region ?_
  refine jl rfl rfl (ltn hn rfl) (pure_assign rfl rfl) ?_
  refine JL_nil ?_
  refine J_block ?_
  refine J_loop (X := Nat) (fun i => ⟨[(1, I a), (2, I b), (3, .box 3 0), (7, I (i : Nat))], [(3, .box 30 [I n, LP es])]⟩) (fun i => i ≤ es.length ∧ (es.take i).any (nearE a b) = false) (fun i => es.length - i) 0 ?_ ?_ ?_
  · exact ⟨by simp, by simp⟩
  ·
    refine Le_sub C _ _ ⟨rfl, ⟨rfl, ⟨rfl, ⟨rfl, trivial⟩⟩⟩⟩ ⟨rfl, trivial⟩ rfl rfl
  ·
    intro i hR
    obtain ⟨hi, hc⟩ := hR
    refine J_seq ?_
    refine J_seq ?_
    refine J_region ?_
    refine jl rfl rfl (ltn hn rfl) (pure_move rfl rfl) ?_
    refine jl rfl rfl (ltn hn rfl) (p_fld_b rfl rfl rfl) ?_
    refine jl rfl rfl (ltn hn rfl) (p_ld_b rfl rfl rfl rfl) ?_
    refine jl rfl rfl (ltn hn rfl) (p_len_m rfl rfl) ?_
    refine jl rfl rfl (ltn hn rfl) (pure_lss rfl rfl rfl) ?_
    refine JL_nil ?_
    refine J_cond_p rfl (fun h1 => ?_) (fun h1 => ?_)
    ·
      refine J_skip ?_
      refine J_seq ?_
      refine J_block ?_
      refine J_seq ?_
      refine J_region ?_
      refine jl rfl rfl (ltn hn rfl) (p_fld_b rfl rfl rfl) ?_
      refine jl rfl rfl (ltn hn rfl) (p_ld_b rfl rfl rfl rfl) ?_
      refine jl rfl rfl (ltn hn rfl) (pure_move rfl rfl) ?_
      refine jl rfl rfl (ltn hn rfl) (p_idx rfl rfl rfl (by omega) (mget (by omega))) ?_
      refine jl rfl rfl (ltn hn rfl) (p_ld_a rfl rfl (Nat.le_of_ble_eq_true rfl) rfl) ?_
      refine jl_o rfl (@op_alloc _ _ _ _ _ _ _ rfl ZrT.out rfl rfl (ltn hn rfl) rfl) ?_
      refine jl_o rfl (op_store_box_agg rfl rfl (by exact SzT.out) rfl rfl (by exact Nat.le_of_ble_eq_true rfl) rfl rfl) ?_
      refine JL_nil ?_
      refine J_seq ?_
      refine J_region ?_
      refine jl rfl rfl (ltn hn rfl) (p_idx_ab rfl rfl rfl (by omega) (by omega) rfl) ?_
      refine jl rfl rfl (ltn hn rfl) (p_ld_b rfl rfl rfl rfl) ?_
      refine jl rfl rfl (ltn hn rfl) (pure_move rfl rfl) ?_
      refine jl rfl rfl (ltn hn rfl) (pure_eql rfl rfl rfl) ?_
      refine jl rfl rfl (ltn hn rfl) (pure_move rfl rfl) ?_
      refine jl_split rfl rfl rfl (fun h2 => ?_) (fun h2 => ?_)
      ·
        refine jl rfl rfl (ltn hn rfl) (p_idx_ab rfl rfl rfl (by omega) (by omega) rfl) ?_
        refine jl rfl rfl (ltn hn rfl) (p_ld_b rfl rfl rfl rfl) ?_
        refine jl rfl rfl (ltn hn rfl) (pure_move rfl rfl) ?_
        refine jl rfl rfl (ltn hn rfl) (pure_eql rfl rfl rfl) ?_
        refine jl rfl rfl (ltn hn rfl) (pure_pick_t rfl rfl rfl) ?_
        refine jl rfl rfl (ltn hn rfl) (pure_move rfl rfl) ?_
        refine jl_split rfl rfl rfl (fun h3 => ?_) (fun h3 => ?_)
        ·
          refine jl_s rfl rfl (ltn hn rfl) ?_
          refine jl_s rfl rfl (ltn hn rfl) ?_
          refine jl_s rfl rfl (ltn hn rfl) ?_
          refine jl_s rfl rfl (ltn hn rfl) ?_
          refine jl_s rfl rfl (ltn hn rfl) ?_
          refine jl_s rfl rfl (ltn hn rfl) ?_
          refine jl_s rfl rfl (ltn hn rfl) ?_
          refine jl_s rfl rfl (ltn hn rfl) ?_
          refine jl_s rfl rfl (ltn hn rfl) ?_
          refine jl_s rfl rfl (ltn hn rfl) ?_
          refine jl rfl rfl (ltn hn rfl) (pure_pick_t rfl rfl rfl) ?_
          refine JL_nil ?_
          refine J_cond_t rfl ?_
          refine J_seq ?_
          refine J_region ?_
          refine jl rfl rfl (ltn hn rfl) (pure_assign rfl rfl) ?_
          refine JL_nil ?_
          refine J_ret ?_
          first | (exact Fin_one rfl (Le_one rfl (vb (by rw [take_all h1] at hc; exact hc.symm)) rfl)) | exact Fin_one rfl (Le_one rfl (vb (any_hit h1 (by simp_all [nearE])).symm) rfl)
        ·
          refine jl rfl rfl (ltn hn rfl) (p_idx_ab rfl rfl rfl (by omega) (by omega) rfl) ?_
          refine jl rfl rfl (ltn hn rfl) (p_ld_b rfl rfl rfl rfl) ?_
          refine jl rfl rfl (ltn hn rfl) (pure_move rfl rfl) ?_
          refine jl rfl rfl (ltn hn rfl) (pure_eql rfl rfl rfl) ?_
          refine jl rfl rfl (ltn hn rfl) (pure_move rfl rfl) ?_
          refine jl_split rfl rfl rfl (fun h4 => ?_) (fun h4 => ?_)
          ·
            refine jl rfl rfl (ltn hn rfl) (p_idx_ab rfl rfl rfl (by omega) (by omega) rfl) ?_
            refine jl rfl rfl (ltn hn rfl) (p_ld_b rfl rfl rfl rfl) ?_
            refine jl rfl rfl (ltn hn rfl) (pure_move rfl rfl) ?_
            refine jl rfl rfl (ltn hn rfl) (pure_eql rfl rfl rfl) ?_
            refine jl rfl rfl (ltn hn rfl) (pure_pick_t rfl rfl rfl) ?_
            refine jl rfl rfl (ltn hn rfl) (pure_pick_f rfl rfl rfl) ?_
            refine JL_nil ?_
            refine J_cond_p rfl (fun h5 => ?_) (fun h5 => ?_)
            ·
              refine J_seq ?_
              refine J_region ?_
              refine jl rfl rfl (ltn hn rfl) (pure_assign rfl rfl) ?_
              refine JL_nil ?_
              refine J_ret ?_
              first | (exact Fin_one rfl (Le_one rfl (vb (by rw [take_all h1] at hc; exact hc.symm)) rfl)) | exact Fin_one rfl (Le_one rfl (vb (any_hit h1 (by simp_all [nearE])).symm) rfl)
            ·
              refine J_skip ?_
              refine J_region ?_
              refine jl rfl rfl (ltn hn rfl) (pure_move rfl rfl) ?_
              refine jl rfl rfl (ltn hn rfl) (pure_add rfl rfl rfl (by omega)) ?_
              refine jl rfl rfl (ltn hn rfl) (pure_assign rfl rfl) ?_
              refine JL_nil ?_
              refine ⟨i + 1, ?_, ?_, ?_⟩
              · exact ⟨by omega, any_step h1 hc (by simp_all [nearE])⟩
              · omega
              ·
                refine Le_sub C _ _ ⟨rfl, ⟨rfl, ⟨rfl, ⟨(eqv rfl (vi (by omega))), trivial⟩⟩⟩⟩ ⟨rfl, trivial⟩ rfl rfl
          ·
            refine jl_s rfl rfl (ltn hn rfl) ?_
            refine jl_s rfl rfl (ltn hn rfl) ?_
            refine jl_s rfl rfl (ltn hn rfl) ?_
            refine jl_s rfl rfl (ltn hn rfl) ?_
            refine jl rfl rfl (ltn hn rfl) (pure_pick_f rfl rfl rfl) ?_
            refine jl rfl rfl (ltn hn rfl) (pure_pick_f rfl rfl rfl) ?_
            refine JL_nil ?_
            refine J_cond_f rfl ?_
            refine J_skip ?_
            refine J_region ?_
            refine jl rfl rfl (ltn hn rfl) (pure_move rfl rfl) ?_
            refine jl rfl rfl (ltn hn rfl) (pure_add rfl rfl rfl (by omega)) ?_
            refine jl rfl rfl (ltn hn rfl) (pure_assign rfl rfl) ?_
            refine JL_nil ?_
            refine ⟨i + 1, ?_, ?_, ?_⟩
            · exact ⟨by omega, any_step h1 hc (by simp_all [nearE])⟩
            · omega
            ·
              refine Le_sub C _ _ ⟨rfl, ⟨rfl, ⟨rfl, ⟨(eqv rfl (vi (by omega))), trivial⟩⟩⟩⟩ ⟨rfl, trivial⟩ rfl rfl
      ·
        refine jl_s rfl rfl (ltn hn rfl) ?_
        refine jl_s rfl rfl (ltn hn rfl) ?_
        refine jl_s rfl rfl (ltn hn rfl) ?_
        refine jl_s rfl rfl (ltn hn rfl) ?_
        refine jl rfl rfl (ltn hn rfl) (pure_pick_f rfl rfl rfl) ?_
        refine jl rfl rfl (ltn hn rfl) (pure_move rfl rfl) ?_
        refine jl rfl rfl (ltn hn rfl) (p_idx_ab rfl rfl rfl (by omega) (by omega) rfl) ?_
        refine jl rfl rfl (ltn hn rfl) (p_ld_b rfl rfl rfl rfl) ?_
        refine jl rfl rfl (ltn hn rfl) (pure_move rfl rfl) ?_
        refine jl rfl rfl (ltn hn rfl) (pure_eql rfl rfl rfl) ?_
        refine jl rfl rfl (ltn hn rfl) (pure_move rfl rfl) ?_
        refine jl_split rfl rfl rfl (fun h6 => ?_) (fun h6 => ?_)
        ·
          refine jl rfl rfl (ltn hn rfl) (p_idx_ab rfl rfl rfl (by omega) (by omega) rfl) ?_
          refine jl rfl rfl (ltn hn rfl) (p_ld_b rfl rfl rfl rfl) ?_
          refine jl rfl rfl (ltn hn rfl) (pure_move rfl rfl) ?_
          refine jl rfl rfl (ltn hn rfl) (pure_eql rfl rfl rfl) ?_
          refine jl rfl rfl (ltn hn rfl) (pure_pick_t rfl rfl rfl) ?_
          refine jl rfl rfl (ltn hn rfl) (pure_pick_f rfl rfl rfl) ?_
          refine JL_nil ?_
          refine J_cond_p rfl (fun h7 => ?_) (fun h7 => ?_)
          ·
            refine J_seq ?_
            refine J_region ?_
            refine jl rfl rfl (ltn hn rfl) (pure_assign rfl rfl) ?_
            refine JL_nil ?_
            refine J_ret ?_
            first | (exact Fin_one rfl (Le_one rfl (vb (by rw [take_all h1] at hc; exact hc.symm)) rfl)) | exact Fin_one rfl (Le_one rfl (vb (any_hit h1 (by simp_all [nearE])).symm) rfl)
          ·
            refine J_skip ?_
            refine J_region ?_
            refine jl rfl rfl (ltn hn rfl) (pure_move rfl rfl) ?_
            refine jl rfl rfl (ltn hn rfl) (pure_add rfl rfl rfl (by omega)) ?_
            refine jl rfl rfl (ltn hn rfl) (pure_assign rfl rfl) ?_
            refine JL_nil ?_
            refine ⟨i + 1, ?_, ?_, ?_⟩
            · exact ⟨by omega, any_step h1 hc (by simp_all [nearE])⟩
            · omega
            ·
              refine Le_sub C _ _ ⟨rfl, ⟨rfl, ⟨rfl, ⟨(eqv rfl (vi (by omega))), trivial⟩⟩⟩⟩ ⟨rfl, trivial⟩ rfl rfl
        ·
          refine jl_s rfl rfl (ltn hn rfl) ?_
          refine jl_s rfl rfl (ltn hn rfl) ?_
          refine jl_s rfl rfl (ltn hn rfl) ?_
          refine jl_s rfl rfl (ltn hn rfl) ?_
          refine jl rfl rfl (ltn hn rfl) (pure_pick_f rfl rfl rfl) ?_
          refine jl rfl rfl (ltn hn rfl) (pure_pick_f rfl rfl rfl) ?_
          refine JL_nil ?_
          refine J_cond_f rfl ?_
          refine J_skip ?_
          refine J_region ?_
          refine jl rfl rfl (ltn hn rfl) (pure_move rfl rfl) ?_
          refine jl rfl rfl (ltn hn rfl) (pure_add rfl rfl rfl (by omega)) ?_
          refine jl rfl rfl (ltn hn rfl) (pure_assign rfl rfl) ?_
          refine JL_nil ?_
          refine ⟨i + 1, ?_, ?_, ?_⟩
          · exact ⟨by omega, any_step h1 hc (by simp_all [nearE])⟩
          · omega
          ·
            refine Le_sub C _ _ ⟨rfl, ⟨rfl, ⟨rfl, ⟨(eqv rfl (vi (by omega))), trivial⟩⟩⟩⟩ ⟨rfl, trivial⟩ rfl rfl
    ·
      refine J_exit ?_
      refine J_seq ?_
      refine J_region ?_
      refine jl rfl rfl (ltn hn rfl) (pure_assign rfl rfl) ?_
      refine JL_nil ?_
      refine J_ret ?_
      first | (exact Fin_one rfl (Le_one rfl (vb (by rw [take_all h1] at hc; exact hc.symm)) rfl)) | exact Fin_one rfl (Le_one rfl (vb (any_hit h1 (by simp_all [nearE])).symm) rfl)
theorem Neighbors_spec (n : Nat) (es : List (Int × Int)) (x : Int) (hl : es.length < 2^40) (hn8 : n ≤ 8) : Spec Tryz.prog 103 [Gr (n : Int) es, I x] (L (nbG n es x)) [] := by
  refine Spec.intro (c := _) Tryz.func103 rfl (Nat.le_of_ble_eq_true rfl) (fun C hC hfx => ?_)
  have hn : C.n = 23 := hC
  refine (show J _ _ _ _ (⟨[(0, Gr (n : Int) es), (1, I x)], []⟩ : AS) from ?_)
  refine J_seq ?_
  refine J_region ?_
  refine jl_o rfl (op_box_agg rfl rfl (ltn hn rfl) rfl rfl rfl) ?_
  refine jl rfl rfl (ltn hn rfl) (pure_assign rfl rfl) ?_
  refine JL_nil ?_
  refine J_seq ?_
  refine J_region ?_
  refine jl_o rfl (@op_lit0 _ _ _ _ _ cI _ _ _ _ _ SlT.slk rfl rfl (ltn hn rfl) rfl) ?_
  refine jl rfl rfl (ltn hn rfl) (pure_assign rfl rfl) ?_
  refine JL_nil ?_
  refine J_seq ?_
  refine J_seq ?_
  refine J_region ?_
  refine jl rfl rfl (ltn hn rfl) (pure_assign rfl rfl) ?_
  refine JL_nil ?_
  refine J_block ?_
  refine J_loop (X := Nat) (fun i => ⟨[(1, I x), (2, .box 2 0), (5, .own 7 []), (6, I (i : Nat))], [(2, .box 30 [I (n : Int), LP es]), (7, Ow 3 1 cI ((ints i).filter (nearG es x)))]⟩) (fun i => i ≤ n) (fun i => n - i) 0 ?_ ?_ ?_
  · omega
  ·
    refine Le_sub C _ _ ⟨rfl, ⟨rfl, ⟨rfl, ⟨rfl, trivial⟩⟩⟩⟩ ⟨rfl, ⟨rfl, trivial⟩⟩ rfl rfl
  ·
    intro i hi
    refine J_seq ?_
    refine J_seq ?_
    refine J_region ?_
    refine jl rfl rfl (ltn hn rfl) (pure_move rfl rfl) ?_
    refine jl rfl rfl (ltn hn rfl) (p_fld_b rfl rfl rfl) ?_
    refine jl rfl rfl (ltn hn rfl) (p_ld_b rfl rfl rfl rfl) ?_
    refine jl rfl rfl (ltn hn rfl) (pure_lss rfl rfl rfl) ?_
    refine JL_nil ?_
    refine J_cond_p rfl (fun h1 => ?_) (fun h1 => ?_)
    ·
      refine J_skip ?_
      refine J_seq ?_
      refine J_block ?_
      refine J_seq ?_
      refine J_region ?_
      refine jl rfl rfl (ltn hn rfl) (p_ld_ba rfl rfl rfl (Nat.le_of_ble_eq_true rfl) rfl) ?_
      refine jl rfl rfl (ltn hn rfl) (pure_move rfl rfl) ?_
      refine jl rfl rfl (ltn hn rfl) (pure_move rfl rfl) ?_
      refine jl_o rfl (@op_call _ _ _ _ _ _ [.tmp 14, .tmp 15, .tmp 16] _ _ _ _ _ (Near_spec _ _ _ _ (by omega)) rfl Tryz.func133 rfl rfl rfl (ltn hn rfl) ⟨rfl, rfl, ⟨rfl, rfl, ⟨rfl, rfl, trivial⟩⟩⟩ rfl rfl) ?_
      refine JL_nil ?_
      refine J_cond rfl (fun h2 => ?_) (fun h2 => ?_)
      ·
        refine J_region ?_
        refine jl rfl rfl (ltn hn rfl) (pure_move rfl rfl) ?_
        refine jl rfl rfl (ltn hn rfl) (pure_move rfl rfl) ?_
        refine jl_o rfl (@op_lit1 _ _ _ _ _ cI _ _ _ _ _ _ _ SlT.slk rfl rfl (ltn hn rfl) rfl rfl rfl rfl rfl) ?_
        refine jl_o rfl (op_append_m SlT.slk rfl rfl (ltn hn rfl) rfl rfl (src_own_m rfl rfl) (by have hf := filter_len (ints i) (nearG es x); rw [ints_length] at hf; simp only [List.length_cons, List.length_nil]; omega) (by have hf := filter_len (ints i) (nearG es x); rw [ints_length] at hf; simp only [List.length_cons, List.length_nil]; omega)) ?_
        refine jl rfl rfl (ltn hn rfl) (pure_assign rfl rfl) ?_
        refine JL_nil ?_
        refine J_region ?_
        refine jl rfl rfl (ltn hn rfl) (pure_move rfl rfl) ?_
        refine jl rfl rfl (ltn hn rfl) (pure_add rfl rfl rfl (by omega)) ?_
        refine jl rfl rfl (ltn hn rfl) (pure_assign rfl rfl) ?_
        refine JL_nil ?_
        refine ⟨i + 1, ?_, ?_, ?_⟩
        · omega
        · omega
        ·
          refine Le_sub C _ _ ⟨rfl, ⟨rfl, ⟨rfl, ⟨(eqv rfl (vi (by omega))), trivial⟩⟩⟩⟩ ⟨rfl, ⟨(eqv rfl (by rw [ints_succ, filt_t h2])), trivial⟩⟩ rfl rfl
      ·
        refine J_skip ?_
        refine J_region ?_
        refine jl rfl rfl (ltn hn rfl) (pure_move rfl rfl) ?_
        refine jl rfl rfl (ltn hn rfl) (pure_add rfl rfl rfl (by omega)) ?_
        refine jl rfl rfl (ltn hn rfl) (pure_assign rfl rfl) ?_
        refine JL_nil ?_
        refine ⟨i + 1, ?_, ?_, ?_⟩
        · omega
        · omega
        ·
          refine Le_sub C _ _ ⟨rfl, ⟨rfl, ⟨rfl, ⟨(eqv rfl (vi (by omega))), trivial⟩⟩⟩⟩ ⟨rfl, ⟨(eqv rfl (by rw [ints_succ, ← filt_f h2])), trivial⟩⟩ rfl rfl
    ·
      refine J_exit ?_
      refine J_seq ?_
      refine J_region ?_
      refine jl rfl rfl (ltn hn rfl) (pure_move rfl rfl) ?_
      refine jl rfl rfl (ltn hn rfl) (pure_assign rfl rfl) ?_
      refine JL_nil ?_
      refine J_ret ?_
      obtain rfl : i = n := by omega
      exact Fin_one rfl (Le.trans (Le_frz 7 rfl rfl) (Le_one rfl rfl rfl))
theorem Ball_spec (n : Nat) (es : List (Int × Int)) (x : Int) (hl : es.length < 2^40) (hn8 : n ≤ 8) : Spec Tryz.prog 59 [Gr (n : Int) es, I x] (L (ballG n es x)) [] := by
  refine Spec.intro (c := _) Tryz.func59 rfl (Nat.le_of_ble_eq_true rfl) (fun C hC hfx => ?_)
  have hn : C.n = 10 := hC
  refine (show J _ _ _ _ (⟨[(0, Gr (n : Int) es), (1, I x)], []⟩ : AS) from ?_)
  refine J_seq ?_
  refine J_region ?_
  refine jl_o rfl (op_box_agg rfl rfl (ltn hn rfl) rfl rfl rfl) ?_
  refine jl rfl rfl (ltn hn rfl) (pure_assign rfl rfl) ?_
  refine JL_nil ?_
  refine J_seq ?_
  refine J_region ?_
  refine jl rfl rfl (ltn hn rfl) (p_ld_ba rfl rfl rfl (Nat.le_of_ble_eq_true rfl) rfl) ?_
  refine jl rfl rfl (ltn hn rfl) (pure_move rfl rfl) ?_
  refine jl_o rfl (@op_call _ _ _ _ _ _ [.tmp 5, .tmp 6] _ _ _ _ _ (Neighbors_spec _ _ _ (by omega) (by omega)) rfl Tryz.func103 rfl rfl rfl (ltn hn rfl) ⟨rfl, rfl, ⟨rfl, rfl, trivial⟩⟩ rfl rfl) ?_
  refine jl rfl rfl (ltn hn rfl) (pure_move rfl rfl) ?_
  refine jl_o rfl (@op_call _ _ _ _ _ _ [.tmp 7, .tmp 8] _ _ _ _ _ (Put_spec _ _ (by have hf := filter_len (ints n) (nearG es x); rw [ints_length] at hf; show (nbG n es x).length < _; unfold nbG; omega)) rfl Tryz.func102 rfl rfl rfl (ltn hn rfl) ⟨rfl, rfl, ⟨rfl, rfl, trivial⟩⟩ rfl rfl) ?_
  refine jl rfl rfl (ltn hn rfl) (pure_assign rfl rfl) ?_
  refine JL_nil ?_
  refine J_ret ?_
  exact Fin_one rfl (Le_one rfl rfl rfl)
theorem Bits_spec (n : Nat) (code : Int) (hn8 : n ≤ 8) : Spec Tryz.prog 128 [I (n : Int), I code] (L (bitsL n code)) [] := by
  refine Spec.intro (c := _) Tryz.func128 rfl (Nat.le_of_ble_eq_true rfl) (fun C hC hfx => ?_)
  have hn : C.n = 23 := hC
  refine (show J _ _ _ _ (⟨[(0, I (n : Int)), (1, I code)], []⟩ : AS) from ?_)
  refine J_seq ?_
  refine J_region ?_
  refine jl rfl rfl (ltn hn rfl) (pure_assign rfl rfl) ?_
  refine JL_nil ?_
  refine J_seq ?_
  refine J_region ?_
  refine jl_o rfl (@op_lit0 _ _ _ _ _ cI _ _ _ _ _ SlT.slk rfl rfl (ltn hn rfl) rfl) ?_
  refine jl rfl rfl (ltn hn rfl) (pure_assign rfl rfl) ?_
  refine JL_nil ?_
  refine J_seq ?_
  refine J_seq ?_
  refine J_region ?_
  refine jl rfl rfl (ltn hn rfl) (pure_assign rfl rfl) ?_
  refine JL_nil ?_
  refine J_block ?_
  refine J_loop (X := Nat) (fun i => ⟨[(0, I (n : Int)), (1, I code), (5, .own 7 []), (6, I (i : Nat))], [(7, Ow 3 1 cI ((ints i).filter (bitT code)))]⟩) (fun i => i ≤ n) (fun i => n - i) 0 ?_ ?_ ?_
  · omega
  ·
    refine Le_sub C _ _ ⟨rfl, ⟨rfl, ⟨rfl, ⟨rfl, trivial⟩⟩⟩⟩ ⟨rfl, trivial⟩ rfl rfl
  ·
    intro i hi
    refine J_seq ?_
    refine J_seq ?_
    refine J_region ?_
    refine jl rfl rfl (ltn hn rfl) (pure_move rfl rfl) ?_
    refine jl rfl rfl (ltn hn rfl) (pure_move rfl rfl) ?_
    refine jl rfl rfl (ltn hn rfl) (pure_lss rfl rfl rfl) ?_
    refine JL_nil ?_
    refine J_cond_p rfl (fun h1 => ?_) (fun h1 => ?_)
    ·
      refine J_skip ?_
      refine J_seq ?_
      refine J_block ?_
      refine J_seq ?_
      refine J_region ?_
      refine jl rfl rfl (ltn hn rfl) (pure_move rfl rfl) ?_
      refine jl rfl rfl (ltn hn rfl) (pure_move rfl rfl) ?_
      refine jl rfl rfl (ltn hn rfl) (p_shr rfl rfl rfl (by omega)) ?_
      refine jl rfl rfl (ltn hn rfl) (p_bits rfl (by simp) rfl rfl rfl) ?_
      refine jl rfl rfl (ltn hn rfl) (pure_eql rfl rfl rfl) ?_
      refine JL_nil ?_
      refine J_cond_p rfl (fun h2 => ?_) (fun h2 => ?_)
      ·
        refine J_region ?_
        refine jl rfl rfl (ltn hn rfl) (pure_move rfl rfl) ?_
        refine jl rfl rfl (ltn hn rfl) (pure_move rfl rfl) ?_
        refine jl_o rfl (@op_lit1 _ _ _ _ _ cI _ _ _ _ _ _ _ SlT.slk rfl rfl (ltn hn rfl) rfl rfl rfl rfl rfl) ?_
        refine jl_o rfl (op_append_m SlT.slk rfl rfl (ltn hn rfl) rfl rfl (src_own_m rfl rfl) (by have hf := filter_len (ints i) (bitT code); rw [ints_length] at hf; simp only [List.length_cons, List.length_nil]; omega) (by have hf := filter_len (ints i) (bitT code); rw [ints_length] at hf; simp only [List.length_cons, List.length_nil]; omega)) ?_
        refine jl rfl rfl (ltn hn rfl) (pure_assign rfl rfl) ?_
        refine JL_nil ?_
        refine J_region ?_
        refine jl rfl rfl (ltn hn rfl) (pure_move rfl rfl) ?_
        refine jl rfl rfl (ltn hn rfl) (pure_add rfl rfl rfl (by omega)) ?_
        refine jl rfl rfl (ltn hn rfl) (pure_assign rfl rfl) ?_
        refine JL_nil ?_
        refine ⟨i + 1, ?_, ?_, ?_⟩
        · omega
        · omega
        ·
          refine Le_sub C _ _ ⟨rfl, ⟨rfl, ⟨rfl, ⟨(eqv rfl (vi (by omega))), trivial⟩⟩⟩⟩ ⟨(eqv rfl (by rw [ints_succ, filt_t (by simpa [bitT] using h2)])), trivial⟩ rfl rfl
      ·
        refine J_skip ?_
        refine J_region ?_
        refine jl rfl rfl (ltn hn rfl) (pure_move rfl rfl) ?_
        refine jl rfl rfl (ltn hn rfl) (pure_add rfl rfl rfl (by omega)) ?_
        refine jl rfl rfl (ltn hn rfl) (pure_assign rfl rfl) ?_
        refine JL_nil ?_
        refine ⟨i + 1, ?_, ?_, ?_⟩
        · omega
        · omega
        ·
          refine Le_sub C _ _ ⟨rfl, ⟨rfl, ⟨rfl, ⟨(eqv rfl (vi (by omega))), trivial⟩⟩⟩⟩ ⟨(eqv rfl (by rw [ints_succ, ← filt_f (by simpa [bitT] using h2)])), trivial⟩ rfl rfl
    ·
      refine J_exit ?_
      refine J_seq ?_
      refine J_region ?_
      refine jl rfl rfl (ltn hn rfl) (pure_move rfl rfl) ?_
      refine jl rfl rfl (ltn hn rfl) (pure_assign rfl rfl) ?_
      refine JL_nil ?_
      refine J_ret ?_
      obtain rfl : i = n := by omega
      exact Fin_one rfl (Le.trans (Le_frz 7 rfl rfl) (Le_one rfl rfl rfl))
theorem All_spec (n : Nat) (es : List (Int × Int)) (hn8 : n ≤ 8) : Spec Tryz.prog 90 [Gr (n : Int) es] (L (ints n)) [] := by
  refine Spec.intro (c := _) Tryz.func90 rfl (Nat.le_of_ble_eq_true rfl) (fun C hC hfx => ?_)
  have hn : C.n = 10 := hC
  refine (show J _ _ _ _ (⟨[(0, Gr (n : Int) es)], []⟩ : AS) from ?_)
  refine J_seq ?_
  refine J_region ?_
  refine jl_o rfl (op_box_agg rfl rfl (ltn hn rfl) rfl rfl rfl) ?_
  refine jl rfl rfl (ltn hn rfl) (pure_assign rfl rfl) ?_
  refine JL_nil ?_
  refine J_seq ?_
  refine J_mixed [9] follows_mixed (by kernel_rfl) ?_
  refine JD1_read 0 rfl (by kernel_rfl) (by kernel_rfl) (by kernel_rfl) rfl rfl (ltn hn rfl) (p_fld_b rfl rfl rfl) rfl ?_
  refine JD1_read 1 rfl (by kernel_rfl) (by kernel_rfl) (by kernel_rfl) rfl rfl (ltn hn rfl) (p_ld_b rfl rfl rfl rfl) rfl ?_
  refine JD1_read 2 rfl (by kernel_rfl) (by kernel_rfl) (by kernel_rfl) rfl rfl (ltn hn rfl) (p_fld_b rfl rfl rfl) rfl ?_
  refine JD1_read 3 rfl (by kernel_rfl) (by kernel_rfl) (by kernel_rfl) rfl rfl (ltn hn rfl) (p_ld_b rfl rfl rfl rfl) rfl ?_
  refine JD1_read 4 rfl (by kernel_rfl) (by kernel_rfl) (by kernel_rfl) rfl rfl (ltn hn rfl) (p_shl rfl rfl rfl (by omega)) rfl ?_
  refine JD1_read 5 rfl (by kernel_rfl) (by kernel_rfl) (by kernel_rfl) rfl rfl (ltn hn rfl) (pure_sub rfl rfl rfl (by have hs := shl1 (x := (n : Int)) (by omega); rw [hs.1]; omega)) rfl ?_
  refine JD1_go ?_
  refine JD_only 6 rfl (by kernel_rfl) rfl (@op_call _ _ _ _ _ _ [.tmp 4, .tmp 8] _ _ _ _ _ (Bits_spec _ _ (by omega)) rfl Tryz.func128 rfl rfl rfl (ltn hn rfl) ⟨rfl, rfl, ⟨rfl, rfl, trivial⟩⟩ rfl rfl) rfl ?_
  refine JD_still 7 rfl (by kernel_rfl) (by kernel_rfl) (by kernel_rfl) rfl rfl (ltn hn rfl) (pure_assign rfl rfl) ?_
  refine JD_done (by kernel_rfl) ?_
  refine J_ret ?_
  exact Fin_one rfl (Le_one rfl (congrArg L (by rw [(shl1 (x := (n : Int)) (by omega)).1, Int.toNat_natCast]; exact bitsAll n hn8)) rfl)
theorem Number_spec (l : List Int) (hl : l.length < 2^40) (hx : ∀ x ∈ l, 0 ≤ x ∧ x ≤ 8) : Spec Tryz.prog 106 [L l] (I (numL l)) [] := by
  refine Spec.intro (c := _) Tryz.func106 rfl (Nat.le_of_ble_eq_true rfl) (fun C hC hfx => ?_)
  have hn : C.n = 19 := hC
  refine (show J _ _ _ _ (⟨[(0, L l)], []⟩ : AS) from ?_)
  refine J_seq ?_
  refine J_region ?_
  refine jl rfl rfl (ltn hn rfl) (pure_assign rfl rfl) ?_
  refine JL_nil ?_
  refine J_seq ?_
  refine J_region ?_
  refine jl rfl rfl (ltn hn rfl) (pure_assign rfl rfl) ?_
  refine JL_nil ?_
  refine J_seq ?_
  refine J_seq ?_
  refine J_region ?_
  refine jl rfl rfl (ltn hn rfl) (pure_assign rfl rfl) ?_
  refine JL_nil ?_
  refine J_block ?_
  refine J_loop (X := Nat) (fun i => ⟨[(0, L l), (3, I (numL (l.take i))), (4, I (i : Nat))], []⟩) (fun i => i ≤ l.length ∧ 0 ≤ numL (l.take i) ∧ numL (l.take i) ≤ 256 * i) (fun i => l.length - i) 0 ?_ ?_ ?_
  · exact ⟨by omega, by simp [numL], by simp [numL]⟩
  ·
    refine Le_sub C _ _ ⟨rfl, ⟨rfl, ⟨rfl, trivial⟩⟩⟩ trivial rfl rfl
  ·
    intro i hR
    obtain ⟨hi, hc, hc2⟩ := hR
    refine J_seq ?_
    refine J_seq ?_
    refine J_region ?_
    refine jl rfl rfl (ltn hn rfl) (pure_move rfl rfl) ?_
    refine jl rfl rfl (ltn hn rfl) (pure_move rfl rfl) ?_
    refine jl rfl rfl (ltn hn rfl) (p_len_m rfl rfl) ?_
    refine jl rfl rfl (ltn hn rfl) (pure_lss rfl rfl rfl) ?_
    refine JL_nil ?_
    refine J_cond_p rfl (fun h1 => ?_) (fun h1 => ?_)
    ·
      refine J_skip ?_
      refine J_seq ?_
      refine J_block ?_
      refine J_region ?_
      refine jl rfl rfl (ltn hn rfl) (pure_move rfl rfl) ?_
      refine jl rfl rfl (ltn hn rfl) (pure_move rfl rfl) ?_
      refine jl rfl rfl (ltn hn rfl) (pure_move rfl rfl) ?_
      refine jl rfl rfl (ltn hn rfl) (p_idx rfl rfl rfl (by omega) (mget (by omega))) ?_
      refine jl rfl rfl (ltn hn rfl) (p_ld rfl rfl rfl) ?_
      refine jl rfl rfl (ltn hn rfl) (p_shl rfl rfl rfl (by have hg := hx _ (gi_mem h1); omega)) ?_
      refine jl rfl rfl (ltn hn rfl) (pure_add rfl rfl rfl (by have hg := shl1 (hx _ (gi_mem h1)); rw [hg.1]; omega)) ?_
      refine jl rfl rfl (ltn hn rfl) (pure_assign rfl rfl) ?_
      refine JL_nil ?_
      refine J_region ?_
      refine jl rfl rfl (ltn hn rfl) (pure_move rfl rfl) ?_
      refine jl rfl rfl (ltn hn rfl) (pure_add rfl rfl rfl (by omega)) ?_
      refine jl rfl rfl (ltn hn rfl) (pure_assign rfl rfl) ?_
      refine JL_nil ?_
      have hg := shl1 (hx _ (gi_mem h1))
      have hs : numL (l.take (i + 1)) = numL (l.take i) + 2 ^ (gi l i).toNat := by rw [take_gi (by omega), numL_snoc]
      refine ⟨i + 1, ?_, ?_, ?_⟩
      · exact ⟨by omega, by rw [hs]; omega, by rw [hs]; omega⟩
      · omega
      ·
        refine Le_sub C _ _ ⟨rfl, ⟨(eqv rfl (vi (by rw [hs, hg.1]))), ⟨(eqv rfl (vi (by omega))), trivial⟩⟩⟩ trivial rfl rfl
    ·
      refine J_exit ?_
      refine J_seq ?_
      refine J_region ?_
      refine jl rfl rfl (ltn hn rfl) (pure_move rfl rfl) ?_
      refine jl rfl rfl (ltn hn rfl) (pure_assign rfl rfl) ?_
      refine JL_nil ?_
      refine J_ret ?_
      exact Fin_one rfl (Le_one rfl (vi (by rw [take_all h1])) rfl)
theorem Rest_spec (s c : List Int) (hs : s.length < 2^40) (hc : c.length < 2^40) : Spec Tryz.prog 89 [L s, L c] (L (restL s c)) [] := by
  refine Spec.intro (c := _) Tryz.func89 rfl (Nat.le_of_ble_eq_true rfl) (fun C hC hfx => ?_)
  have hn : C.n = 29 := hC
  refine (show J _ _ _ _ (⟨[(0, L s), (1, L c)], []⟩ : AS) from ?_)
  refine J_seq ?_
  refine J_region ?_
  refine jl rfl rfl (ltn hn rfl) (pure_assign rfl rfl) ?_
  refine JL_nil ?_
  refine J_seq ?_
  refine J_region ?_
  refine jl_o rfl (@op_lit0 _ _ _ _ _ cI _ _ _ _ _ SlT.slk rfl rfl (ltn hn rfl) rfl) ?_
  refine jl rfl rfl (ltn hn rfl) (pure_assign rfl rfl) ?_
  refine JL_nil ?_
  refine J_seq ?_
  refine J_seq ?_
  refine J_region ?_
  refine jl rfl rfl (ltn hn rfl) (pure_assign rfl rfl) ?_
  refine JL_nil ?_
  refine J_block ?_
  refine J_loop (X := Nat) (fun i => ⟨[(0, L s), (1, L c), (5, .own 7 []), (6, I (i : Nat))], [(7, Ow 3 1 cI ((s.take i).filter (fun x => !c.contains x)))]⟩) (fun i => i ≤ s.length) (fun i => s.length - i) 0 ?_ ?_ ?_
  · omega
  ·
    refine Le_sub C _ _ ⟨rfl, ⟨rfl, ⟨rfl, ⟨rfl, trivial⟩⟩⟩⟩ ⟨rfl, trivial⟩ rfl rfl
  ·
    intro i hi
    refine J_seq ?_
    refine J_seq ?_
    refine J_region ?_
    refine jl rfl rfl (ltn hn rfl) (pure_move rfl rfl) ?_
    refine jl rfl rfl (ltn hn rfl) (pure_move rfl rfl) ?_
    refine jl rfl rfl (ltn hn rfl) (p_len_m rfl rfl) ?_
    refine jl rfl rfl (ltn hn rfl) (pure_lss rfl rfl rfl) ?_
    refine JL_nil ?_
    refine J_cond_p rfl (fun h1 => ?_) (fun h1 => ?_)
    ·
      refine J_skip ?_
      refine J_seq ?_
      refine J_block ?_
      refine J_seq ?_
      refine J_region ?_
      refine jl rfl rfl (ltn hn rfl) (pure_move rfl rfl) ?_
      refine jl rfl rfl (ltn hn rfl) (pure_move rfl rfl) ?_
      refine jl rfl rfl (ltn hn rfl) (pure_move rfl rfl) ?_
      refine jl rfl rfl (ltn hn rfl) (p_idx rfl rfl rfl (by omega) (mget (by omega))) ?_
      refine jl rfl rfl (ltn hn rfl) (p_ld rfl rfl rfl) ?_
      refine jl_o rfl (@op_call _ _ _ _ _ _ [.tmp 14, .tmp 18] _ _ _ _ _ (Has_spec _ _ (by omega)) rfl Tryz.func60 rfl rfl rfl (ltn hn rfl) ⟨rfl, rfl, ⟨rfl, rfl, trivial⟩⟩ rfl rfl) ?_
      refine jl rfl rfl (ltn hn rfl) (pure_not_b rfl rfl) ?_
      refine JL_nil ?_
      refine J_cond rfl (fun h2 => ?_) (fun h2 => ?_)
      ·
        refine J_region ?_
        refine jl rfl rfl (ltn hn rfl) (pure_move rfl rfl) ?_
        refine jl rfl rfl (ltn hn rfl) (pure_move rfl rfl) ?_
        refine jl rfl rfl (ltn hn rfl) (pure_move rfl rfl) ?_
        refine jl rfl rfl (ltn hn rfl) (p_idx rfl rfl rfl (by omega) (mget (by omega))) ?_
        refine jl rfl rfl (ltn hn rfl) (p_ld rfl rfl rfl) ?_
        refine jl_o rfl (@op_lit1 _ _ _ _ _ cI _ _ _ _ _ _ _ SlT.slk rfl rfl (ltn hn rfl) rfl rfl rfl rfl rfl) ?_
        refine jl_o rfl (op_append_m SlT.slk rfl rfl (ltn hn rfl) rfl rfl (src_own_m rfl rfl) (by have hf := filter_len (s.take i) (fun x => !c.contains x); rw [List.length_take] at hf; simp only [List.length_cons, List.length_nil]; omega) (by have hf := filter_len (s.take i) (fun x => !c.contains x); rw [List.length_take] at hf; simp only [List.length_cons, List.length_nil]; omega)) ?_
        refine jl rfl rfl (ltn hn rfl) (pure_assign rfl rfl) ?_
        refine JL_nil ?_
        refine J_region ?_
        refine jl rfl rfl (ltn hn rfl) (pure_move rfl rfl) ?_
        refine jl rfl rfl (ltn hn rfl) (pure_add rfl rfl rfl (by omega)) ?_
        refine jl rfl rfl (ltn hn rfl) (pure_assign rfl rfl) ?_
        refine JL_nil ?_
        refine ⟨i + 1, ?_, ?_, ?_⟩
        · omega
        · omega
        ·
          refine Le_sub C _ _ ⟨rfl, ⟨rfl, ⟨rfl, ⟨(eqv rfl (vi (by omega))), trivial⟩⟩⟩⟩ ⟨(eqv rfl (by rw [take_gi (by omega), filt_t (p := fun x => !c.contains x) h2])), trivial⟩ rfl rfl
      ·
        refine J_skip ?_
        refine J_region ?_
        refine jl rfl rfl (ltn hn rfl) (pure_move rfl rfl) ?_
        refine jl rfl rfl (ltn hn rfl) (pure_add rfl rfl rfl (by omega)) ?_
        refine jl rfl rfl (ltn hn rfl) (pure_assign rfl rfl) ?_
        refine JL_nil ?_
        refine ⟨i + 1, ?_, ?_, ?_⟩
        · omega
        · omega
        ·
          refine Le_sub C _ _ ⟨rfl, ⟨rfl, ⟨rfl, ⟨(eqv rfl (vi (by omega))), trivial⟩⟩⟩⟩ ⟨(eqv rfl (by rw [take_gi (by omega), ← filt_f (p := fun x => !c.contains x) h2])), trivial⟩ rfl rfl
    ·
      refine J_exit ?_
      refine J_seq ?_
      refine J_region ?_
      refine jl rfl rfl (ltn hn rfl) (pure_move rfl rfl) ?_
      refine jl rfl rfl (ltn hn rfl) (pure_assign rfl rfl) ?_
      refine JL_nil ?_
      refine J_ret ?_
      exact Fin_one rfl (Le.trans (Le_frz 7 rfl rfl) (Le_one rfl (congrArg L (by rw [take_all h1]; rfl)) rfl))
theorem Same_spec (a b : List Int) (ha : a.length < 2^40) (hb : b.length < 2^40) : Spec Tryz.prog 117 [L a, L b] (B (decide (a = b))) [] := by
  refine Spec.intro (c := _) Tryz.func117 rfl (Nat.le_of_ble_eq_true rfl) (fun C hC hfx => ?_)
  have hn : C.n = 26 := hC
  refine (show J _ _ _ _ (⟨[(0, L a), (1, L b)], []⟩ : AS) from ?_)
  refine J_seq ?_
  refine J_region ?_
  refine jl rfl rfl (ltn hn rfl) (pure_assign rfl rfl) ?_
  refine JL_nil ?_
  refine J_seq ?_
  refine J_seq ?_
  refine J_region ?_
  refine jl rfl rfl (ltn hn rfl) (pure_move rfl rfl) ?_
  refine jl rfl rfl (ltn hn rfl) (p_len_m rfl rfl) ?_
  refine jl rfl rfl (ltn hn rfl) (pure_move rfl rfl) ?_
  refine jl rfl rfl (ltn hn rfl) (p_len_m rfl rfl) ?_
  refine jl rfl rfl (ltn hn rfl) (pure_neq rfl rfl rfl) ?_
  refine JL_nil ?_
  refine J_cond_p rfl (fun h1 => ?_) (fun h1 => ?_)
  ·
    refine J_seq ?_
    refine J_region ?_
    refine jl rfl rfl (ltn hn rfl) (pure_assign rfl rfl) ?_
    refine JL_nil ?_
    refine J_ret ?_
    exact Fin_one rfl (Le_one rfl (vb (by simp; intro e; subst e; exact h1 rfl)) rfl)
  ·
    refine J_skip ?_
    refine J_seq ?_
    refine J_seq ?_
    refine J_region ?_
    refine jl rfl rfl (ltn hn rfl) (pure_assign rfl rfl) ?_
    refine JL_nil ?_
    refine J_block ?_
    refine J_loop (X := Nat) (fun i => ⟨[(0, L a), (1, L b), (5, I (i : Nat))], []⟩) (fun i => i ≤ a.length ∧ a.take i = b.take i) (fun i => a.length - i) 0 ?_ ?_ ?_
    · exact ⟨by simp, by simp⟩
    ·
      refine Le_sub C _ _ ⟨rfl, ⟨rfl, ⟨rfl, trivial⟩⟩⟩ trivial rfl rfl
    ·
      intro i hR
      obtain ⟨hi, hc⟩ := hR
      refine J_seq ?_
      refine J_seq ?_
      refine J_region ?_
      refine jl rfl rfl (ltn hn rfl) (pure_move rfl rfl) ?_
      refine jl rfl rfl (ltn hn rfl) (pure_move rfl rfl) ?_
      refine jl rfl rfl (ltn hn rfl) (p_len_m rfl rfl) ?_
      refine jl rfl rfl (ltn hn rfl) (pure_lss rfl rfl rfl) ?_
      refine JL_nil ?_
      refine J_cond_p rfl (fun h2 => ?_) (fun h2 => ?_)
      ·
        refine J_skip ?_
        refine J_seq ?_
        refine J_block ?_
        refine J_seq ?_
        refine J_draw follows_mixed (by kernel_rfl) ?_
        refine jq rfl rfl (ltn hn rfl) (pure_move rfl rfl) ?_
        refine jq rfl rfl (ltn hn rfl) (pure_move rfl rfl) ?_
        refine jq rfl rfl (ltn hn rfl) (p_idx rfl rfl rfl (by omega) (mget (by omega))) ?_
        refine jq rfl rfl (ltn hn rfl) (p_ld rfl rfl rfl) ?_
        refine jq rfl rfl (ltn hn rfl) (pure_move rfl rfl) ?_
        refine jq rfl rfl (ltn hn rfl) (pure_move rfl rfl) ?_
        refine jq rfl rfl (ltn hn rfl) (p_idx rfl rfl rfl (by omega) (mget (by omega))) ?_
        refine jq rfl rfl (ltn hn rfl) (p_ld rfl rfl rfl) ?_
        refine jq rfl rfl (ltn hn rfl) (pure_neq rfl rfl rfl) ?_
        refine JQ_nil ?_
        refine J_cond_p rfl (fun h3 => ?_) (fun h3 => ?_)
        ·
          refine J_seq ?_
          refine J_region ?_
          refine jl rfl rfl (ltn hn rfl) (pure_assign rfl rfl) ?_
          refine JL_nil ?_
          refine J_ret ?_
          exact Fin_one rfl (Le_one rfl (vb (by simp; intro e; subst e; exact h3 rfl)) rfl)
        ·
          refine J_skip ?_
          refine J_region ?_
          refine jl rfl rfl (ltn hn rfl) (pure_move rfl rfl) ?_
          refine jl rfl rfl (ltn hn rfl) (pure_add rfl rfl rfl (by omega)) ?_
          refine jl rfl rfl (ltn hn rfl) (pure_assign rfl rfl) ?_
          refine JL_nil ?_
          refine ⟨i + 1, ?_, ?_, ?_⟩
          · exact ⟨by omega, by rw [take_gi (by omega), take_gi (by omega), hc, Decidable.not_not.1 h3]⟩
          · omega
          ·
            refine Le_sub C _ _ ⟨rfl, ⟨rfl, ⟨(eqv rfl (vi (by omega))), trivial⟩⟩⟩ trivial rfl rfl
      ·
        refine J_exit ?_
        refine J_seq ?_
        refine J_region ?_
        refine jl rfl rfl (ltn hn rfl) (pure_assign rfl rfl) ?_
        refine JL_nil ?_
        refine J_ret ?_
        exact Fin_one rfl (Le_one rfl (vb (by rw [take_all h2, take_all (by omega)] at hc; simp [hc])) rfl)
end Go.Proofs.YtmiijpobhajfmaaGreat.J
