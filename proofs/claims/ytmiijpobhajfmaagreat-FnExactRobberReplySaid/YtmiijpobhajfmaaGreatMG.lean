/- Parts of a small logic over the program, and walks in it. No statement of the seat is proved in this text. -/
import Derived.Test.YtmiijpobhajfmaaGreatMF
namespace Go.Proofs.YtmiijpobhajfmaaGreat.J
open Go Go.RowKit
set_option linter.unusedVariables false
set_option linter.unusedSimpArgs false

def stepM (n : Nat) (es : List (Int × Int)) (now : List (List Int)) (c : Int) : List (List Int) := now.flatMap (fun l => (ballG n es c).map (fun x => l ++ [x]))
def prodL (n : Nat) (es : List (Int × Int)) (cs : List Int) : List (List Int) := cs.foldl (stepM n es) [[]]
def movesL (n : Nat) (es : List (Int × Int)) (cs : List Int) : List (List Int) := ((prodL n es cs).map sortL).foldl putLL []
def mvL (n : Nat) (es : List (Int × Int)) (cfg : List (List Int)) (l : List Int) : List Int := (movesL n es l).map (atL cfg)
theorem ball_len {n : Nat} (hn : n ≤ 8) (es : List (Int × Int)) (x : Int) : (ballG n es x).length ≤ 9 := by
  have h1 := putL_len (nbG n es x) x
  have h2 := filter_len (ints n) (nearG es x)
  rw [ints_length] at h2
  have h3 : (nbG n es x).length ≤ n := h2
  have h4 : (ballG n es x).length ≤ (nbG n es x).length + 1 := h1
  omega
theorem prod_step {n : Nat} {es : List (Int × Int)} {cs : List Int} {i : Nat} (h : (i : Int) < cs.length) : prodL n es (cs.take (i + 1)) = stepM n es (prodL n es (cs.take i)) (gi cs i) := by
  unfold prodL
  rw [take_gi (by omega), List.foldl_append]
  rfl
theorem prod_facts {n : Nat} (hn : n ≤ 8) (es : List (Int × Int)) (cs : List Int) : ∀ i, i ≤ cs.length → (∀ l ∈ prodL n es (cs.take i), l.length = i) ∧ (prodL n es (cs.take i)).length ≤ 9 ^ i
  | 0, _ => by simp [prodL]
  | i + 1, h => by
    obtain ⟨h1, h2⟩ := prod_facts hn es cs i (by omega)
    rw [prod_step (by omega)]
    refine ⟨fun l hl => ?_, ?_⟩
    · simp only [stepM, List.mem_flatMap, List.mem_map] at hl
      obtain ⟨l0, h0, x, _, rfl⟩ := hl
      simp [h1 l0 h0]
    · have h3 := flat_len (fun l => (ballG n es (gi cs i)).map (fun x => l ++ [x])) 9 (prodL n es (cs.take i)) (fun l _ => by rw [List.length_map]; exact ball_len hn es _)
      simp only [stepM, Nat.pow_succ]
      omega
theorem prod_len3 {n : Nat} (hn : n ≤ 8) (es : List (Int × Int)) {cs : List Int} (hc : cs.length ≤ 3) {i : Nat} (hi : i ≤ cs.length) : (prodL n es (cs.take i)).length ≤ 729 := by
  have h1 := (prod_facts hn es cs i hi).2
  have h2 : 9 ^ i ≤ 9 ^ 3 := Nat.pow_le_pow_right (by omega) (by omega)
  omega
theorem putLL_mem {l : List (List Int)} {x y : List Int} (h : y ∈ putLL l x) : y ∈ l ∨ y = x := by
  unfold putLL at h
  rcases List.mem_append.1 h with h | h
  · rcases List.mem_append.1 h with h | h
    · exact .inl ((List.takeWhile_sublist _).mem h)
    · split at h
      · cases h
      · exact .inr (by simpa using h)
  · exact .inl ((List.dropWhile_sublist _).mem h)
theorem putLL_len (l : List (List Int)) (x : List Int) : (putLL l x).length ≤ l.length + 1 := by
  have h := congrArg List.length (List.takeWhile_append_dropWhile (p := fun y => lessL y x) (l := l))
  simp only [List.length_append] at h
  unfold putLL
  split <;> simp only [List.length_append, List.length_nil, List.length_cons] <;> omega
theorem fold_putLL : ∀ (l s : List (List Int)), (l.foldl putLL s).length ≤ s.length + l.length ∧ ∀ y ∈ l.foldl putLL s, y ∈ s ∨ y ∈ l
  | [], s => by simp
  | a :: r, s => by
    obtain ⟨h1, h2⟩ := fold_putLL r (putLL s a)
    have h3 := putLL_len s a
    refine ⟨by simp only [List.foldl_cons, List.length_cons]; omega, fun y hy => ?_⟩
    rcases h2 y hy with h | h
    · rcases putLL_mem h with h | rfl
      · exact .inl h
      · exact .inr List.mem_cons_self
    · exact .inr (List.mem_cons_of_mem _ h)
theorem sortL_len (l : List Int) : (sortL l).length = l.length := by
  have := fold_ins_len l []
  simpa [sortL] using this
theorem movesL_facts {n : Nat} (hn : n ≤ 8) (es : List (Int × Int)) {cs : List Int} (hc : cs.length ≤ 3) : (movesL n es cs).length ≤ 729 ∧ ∀ y ∈ movesL n es cs, y.length = cs.length := by
  obtain ⟨h1, h2⟩ := fold_putLL ((prodL n es cs).map sortL) []
  have h3 := prod_len3 hn es hc (Nat.le_refl _)
  have h4 := (prod_facts hn es cs cs.length (Nat.le_refl _)).1
  rw [List.take_length] at h3 h4
  rw [List.length_map, List.length_nil] at h1
  refine ⟨by unfold movesL; omega, fun y hy => ?_⟩
  rcases h2 y hy with h | h
  · cases h
  · obtain ⟨z, hz, rfl⟩ := List.mem_map.1 h
    rw [sortL_len, h4 z hz]
theorem out_facts {n : Nat} (es : List (Int × Int)) {cs : List Int} (hn : n ≤ 8) (p : Nat) : ((((prodL n es cs).take p).map sortL).foldl putLL []).length ≤ p ∧ ∀ y ∈ (((prodL n es cs).take p).map sortL).foldl putLL [], y.length = cs.length := by
  obtain ⟨h1, h2⟩ := fold_putLL (((prodL n es cs).take p).map sortL) []
  have h4 := (prod_facts hn es cs cs.length (Nat.le_refl _)).1
  rw [List.take_length] at h4
  rw [List.length_map, List.length_nil, List.length_take] at h1
  refine ⟨by omega, fun y hy => ?_⟩
  rcases h2 y hy with h | h
  · cases h
  · obtain ⟨z, hz, rfl⟩ := List.mem_map.1 h
    rw [sortL_len, h4 z (List.mem_of_mem_take hz)]

theorem Moves_spec (n : Nat) (es : List (Int × Int)) (cs : List Int) (hl : es.length < 2^40) (hn8 : n ≤ 8) (hc : cs.length ≤ 3) : Spec Tryz.prog 88 [Gr (n : Int) es, L cs] (LL (movesL n es cs)) [] := by
  refine Spec.intro (c := _) Tryz.func88 rfl (Nat.le_of_ble_eq_true rfl) (fun C hC hfx => ?_)
  have hn : C.n = 70 := hC
  refine (show J _ _ _ _ (⟨[(0, Gr (n : Int) es), (1, L cs)], []⟩ : AS) from ?_)
  refine J_seq ?_
  refine J_region ?_
  refine jl_o rfl (op_box_agg rfl rfl (ltn hn rfl) rfl rfl rfl) ?_
  refine jl rfl rfl (ltn hn rfl) (pure_assign rfl rfl) ?_
  refine JL_nil ?_
  refine J_seq ?_
  refine J_region ?_
  refine jl_o rfl (@op_lit0 _ _ _ _ _ cI _ _ _ _ _ SlT.slk rfl rfl (ltn hn rfl) rfl) ?_
  refine JL_le (Le_frz 13 rfl rfl) ?_
  refine jl_o rfl (@op_lit1 _ _ _ _ _ cL _ _ _ _ _ _ _ SlT.slk rfl rfl (ltn hn rfl) rfl rfl rfl rfl rfl) ?_
  refine jl rfl rfl (ltn hn rfl) (pure_assign rfl rfl) ?_
  refine JL_nil ?_
  refine J_seq ?_
  refine J_seq ?_
  refine J_region ?_
  refine jl rfl rfl (ltn hn rfl) (pure_assign rfl rfl) ?_
  refine JL_nil ?_
  refine J_block ?_
  refine J_le (Le_frz 14 rfl rfl) ?_
  refine J_loop (X := Nat) (fun i => ⟨[(1, L cs), (2, .box 2 0), (5, LL (prodL n es (cs.take i))), (6, I (i : Nat))], [(2, .box 30 [I (n : Int), LP es])]⟩) (fun i => i ≤ cs.length) (fun i => cs.length - i) 0 ?_ ?_ ?_
  · omega
  ·
    refine Le_sub C _ _ ⟨rfl, ⟨rfl, ⟨rfl, ⟨rfl, trivial⟩⟩⟩⟩ ⟨rfl, trivial⟩ rfl rfl
  ·
    intro i hi
    refine J_seq ?_
    refine J_seq ?_
    refine J_region ?_
    refine jl rfl rfl (ltn hn rfl) (pure_move rfl rfl) ?_
    refine jl rfl rfl (ltn hn rfl) (pure_move rfl rfl) ?_
    refine jl rfl rfl (ltn hn rfl) (p_len_m rfl rfl) ?_
    refine jl rfl rfl (ltn hn rfl) (pure_lss rfl rfl rfl) ?_
    refine JL_nil ?_
    refine J_cond_p rfl (fun h1 => ?_) (fun h1 => ?_)
    ·
      refine J_skip ?_
      refine J_seq ?_
      refine J_block ?_
      refine J_seq ?_
      refine J_join (S := ⟨[(1, L cs), (2, .box 2 0), (5, LL (prodL n es (cs.take i))), (6, I (i : Nat)), (7, .own 21 []), (8, L (ballG n es (gi cs i)))], [(2, .box 30 [I (n : Int), LP es]), (21, Ow 37 1 cL [])]⟩) ?_ ?_
      ·
        refine J_mixed [21, 27] follows_mixed (by kernel_rfl) ?_
        refine JD1_read 1 rfl (by kernel_rfl) (by kernel_rfl) (by kernel_rfl) rfl rfl (ltn hn rfl) (p_ld_ba rfl rfl rfl (Nat.le_of_ble_eq_true rfl) rfl) rfl ?_
        refine JD1_read 2 rfl (by kernel_rfl) (by kernel_rfl) (by kernel_rfl) rfl rfl (ltn hn rfl) (pure_move rfl rfl) rfl ?_
        refine JD1_read 3 rfl (by kernel_rfl) (by kernel_rfl) (by kernel_rfl) rfl rfl (ltn hn rfl) (pure_move rfl rfl) rfl ?_
        refine JD1_read 4 rfl (by kernel_rfl) (by kernel_rfl) (by kernel_rfl) rfl rfl (ltn hn rfl) (p_idx rfl rfl rfl (by omega) (mget (by omega))) rfl ?_
        refine JD1_read 5 rfl (by kernel_rfl) (by kernel_rfl) (by kernel_rfl) rfl rfl (ltn hn rfl) (p_ld rfl rfl rfl) rfl ?_
        refine JD1_go ?_
        refine JD_two 0 6 rfl rfl (by kernel_rfl) rfl rfl (@op_lit0 _ _ _ _ _ cL _ _ _ _ _ SlT.slk rfl rfl (ltn hn rfl) rfl) rfl (@op_call _ _ _ _ _ _ [.tmp 22, .tmp 26] _ _ _ _ _ (Ball_spec _ _ _ (by omega) (by omega)) rfl Tryz.func59 rfl rfl rfl (ltn hn rfl) ⟨rfl, rfl, ⟨rfl, rfl, trivial⟩⟩ rfl rfl) rfl ?_ ?_
        ·
          refine JD_only 6 rfl (by kernel_rfl) rfl (@op_call _ _ _ _ _ _ [.tmp 22, .tmp 26] _ _ _ _ _ (Ball_spec _ _ _ (by omega) (by omega)) rfl Tryz.func59 rfl rfl rfl (ltn hn rfl) ⟨rfl, rfl, ⟨rfl, rfl, trivial⟩⟩ rfl rfl) rfl ?_
          refine JD_still 7 rfl (by kernel_rfl) (by kernel_rfl) (by kernel_rfl) rfl rfl (ltn hn rfl) (pure_assign rfl rfl) ?_
          refine JD_still 8 rfl (by kernel_rfl) (by kernel_rfl) (by kernel_rfl) rfl rfl (ltn hn rfl) (pure_assign rfl rfl) ?_
          refine JD_done (by kernel_rfl) ?_
          refine Le_sub C _ _ ⟨rfl, ⟨rfl, ⟨rfl, ⟨rfl, ⟨rfl, ⟨rfl, trivial⟩⟩⟩⟩⟩⟩ ⟨rfl, ⟨rfl, trivial⟩⟩ rfl rfl
        ·
          refine JD_only 0 rfl (by kernel_rfl) rfl (@op_lit0 _ _ _ _ _ cL _ _ _ _ _ SlT.slk rfl rfl (ltn hn rfl) rfl) rfl ?_
          refine JD_still 7 rfl (by kernel_rfl) (by kernel_rfl) (by kernel_rfl) rfl rfl (ltn hn rfl) (pure_assign rfl rfl) ?_
          refine JD_still 8 rfl (by kernel_rfl) (by kernel_rfl) (by kernel_rfl) rfl rfl (ltn hn rfl) (pure_assign rfl rfl) ?_
          refine JD_done (by kernel_rfl) ?_
          refine Le_sub C _ _ ⟨rfl, ⟨rfl, ⟨rfl, ⟨rfl, ⟨rfl, ⟨rfl, trivial⟩⟩⟩⟩⟩⟩ ⟨rfl, ⟨rfl, trivial⟩⟩ rfl rfl
      ·
        refine J_seq ?_
        refine J_seq ?_
        refine J_region ?_
        refine jl rfl rfl (ltn hn rfl) (pure_assign rfl rfl) ?_
        refine JL_nil ?_
        refine J_block ?_
        have hpl := prod_len3 hn8 es hc hi
        have hbl := ball_len hn8 es (gi cs i)
        refine J_loop (X := Nat) (fun j => ⟨[(1, L cs), (2, .box 2 0), (5, LL (prodL n es (cs.take i))), (6, I (i : Nat)), (7, .own 21 []), (8, L (ballG n es (gi cs i))), (9, I (j : Nat))], [(2, .box 30 [I (n : Int), LP es]), (21, Ow 37 1 cL (((prodL n es (cs.take i)).take j).flatMap (fun l => (ballG n es (gi cs i)).map (fun x => l ++ [x]))))]⟩) (fun j => j ≤ (prodL n es (cs.take i)).length) (fun j => (prodL n es (cs.take i)).length - j) 0 ?_ ?_ ?_
        · omega
        ·
          refine Le_sub C _ _ ⟨rfl, ⟨rfl, ⟨rfl, ⟨rfl, ⟨rfl, ⟨rfl, ⟨rfl, trivial⟩⟩⟩⟩⟩⟩⟩ ⟨rfl, ⟨rfl, trivial⟩⟩ rfl rfl
        ·
          intro j hj
          refine J_seq ?_
          refine J_seq ?_
          refine J_region ?_
          refine jl rfl rfl (ltn hn rfl) (pure_move rfl rfl) ?_
          refine jl rfl rfl (ltn hn rfl) (pure_move rfl rfl) ?_
          refine jl rfl rfl (ltn hn rfl) (p_len_m rfl rfl) ?_
          refine jl rfl rfl (ltn hn rfl) (pure_lss rfl rfl rfl) ?_
          refine JL_nil ?_
          refine J_cond_p rfl (fun h2 => ?_) (fun h2 => ?_)
          ·
            refine J_skip ?_
            refine J_seq ?_
            refine J_block ?_
            refine J_seq ?_
            refine J_region ?_
            refine jl rfl rfl (ltn hn rfl) (pure_assign rfl rfl) ?_
            refine JL_nil ?_
            refine J_block ?_
            refine J_loop (X := Nat) (fun q => ⟨[(1, L cs), (2, .box 2 0), (5, LL (prodL n es (cs.take i))), (6, I (i : Nat)), (7, .own 21 []), (8, L (ballG n es (gi cs i))), (9, I (j : Nat)), (10, I (q : Nat))], [(2, .box 30 [I (n : Int), LP es]), (21, Ow 37 1 cL (((prodL n es (cs.take i)).take j).flatMap (fun l => (ballG n es (gi cs i)).map (fun x => l ++ [x])) ++ ((ballG n es (gi cs i)).take q).map (fun x => gi (prodL n es (cs.take i)) j ++ [x])))]⟩) (fun q => q ≤ (ballG n es (gi cs i)).length) (fun q => (ballG n es (gi cs i)).length - q) 0 ?_ ?_ ?_
            · omega
            ·
              refine Le_sub C _ _ ⟨rfl, ⟨rfl, ⟨rfl, ⟨rfl, ⟨rfl, ⟨rfl, ⟨rfl, ⟨rfl, trivial⟩⟩⟩⟩⟩⟩⟩⟩ ⟨rfl, ⟨(eqv rfl (by simp)), trivial⟩⟩ rfl rfl
            ·
              intro q hq
              refine J_seq ?_
              refine J_seq ?_
              refine J_region ?_
              refine jl rfl rfl (ltn hn rfl) (pure_move rfl rfl) ?_
              refine jl rfl rfl (ltn hn rfl) (pure_move rfl rfl) ?_
              refine jl rfl rfl (ltn hn rfl) (p_len_m rfl rfl) ?_
              refine jl rfl rfl (ltn hn rfl) (pure_lss rfl rfl rfl) ?_
              refine JL_nil ?_
              refine J_cond_p rfl (fun h3 => ?_) (fun h3 => ?_)
              ·
                refine J_skip ?_
                refine J_seq ?_
                refine J_block ?_
                refine J_mixed [45, 50, 52, 21] follows_mixed (by kernel_rfl) ?_
                refine JD1_read 0 rfl (by kernel_rfl) (by kernel_rfl) (by kernel_rfl) rfl rfl (ltn hn rfl) (pure_move rfl rfl) rfl ?_
                refine JD1_read 1 rfl (by kernel_rfl) (by kernel_rfl) (by kernel_rfl) rfl rfl (ltn hn rfl) (pure_move rfl rfl) rfl ?_
                refine JD1_read 2 rfl (by kernel_rfl) (by kernel_rfl) (by kernel_rfl) rfl rfl (ltn hn rfl) (pure_move rfl rfl) rfl ?_
                refine JD1_read 3 rfl (by kernel_rfl) (by kernel_rfl) (by kernel_rfl) rfl rfl (ltn hn rfl) (p_idx rfl rfl rfl (by omega) (mget (by omega))) rfl ?_
                refine JD1_read 4 rfl (by kernel_rfl) (by kernel_rfl) (by kernel_rfl) rfl rfl (ltn hn rfl) (p_ld rfl rfl rfl) rfl ?_
                refine JD1_read 6 rfl (by kernel_rfl) (by kernel_rfl) (by kernel_rfl) rfl rfl (ltn hn rfl) (pure_move rfl rfl) rfl ?_
                refine JD1_read 7 rfl (by kernel_rfl) (by kernel_rfl) (by kernel_rfl) rfl rfl (ltn hn rfl) (pure_move rfl rfl) rfl ?_
                refine JD1_read 8 rfl (by kernel_rfl) (by kernel_rfl) (by kernel_rfl) rfl rfl (ltn hn rfl) (p_idx rfl rfl rfl (by omega) (mget (by omega))) rfl ?_
                refine JD1_read 9 rfl (by kernel_rfl) (by kernel_rfl) (by kernel_rfl) rfl rfl (ltn hn rfl) (p_ld rfl rfl rfl) rfl ?_
                refine JD1_go ?_
                refine JD_two 5 10 rfl rfl (by kernel_rfl) rfl rfl (@op_call _ _ _ _ _ _ [.tmp 44] _ _ _ _ _ (Own_spec _ (by have hp := prod_facts hn8 es cs i hi; have hm := hp.1 _ (gi_mem h2); omega)) rfl Tryz.func78 rfl rfl rfl (ltn hn rfl) ⟨rfl, rfl, trivial⟩ rfl rfl) rfl (@op_lit1 _ _ _ _ _ cI _ _ _ _ _ _ _ SlT.slk rfl rfl (ltn hn rfl) rfl rfl rfl rfl rfl) rfl ?_ ?_
                ·
                  refine JD_only 10 rfl (by kernel_rfl) rfl (@op_lit1 _ _ _ _ _ cI _ _ _ _ _ _ _ SlT.slk rfl rfl (ltn hn rfl) rfl rfl rfl rfl rfl) rfl ?_
                  refine JD_only 11 rfl (by kernel_rfl) rfl (op_append_m SlT.slk rfl rfl (ltn hn rfl) rfl rfl (src_own_m rfl rfl) (by have hp := prod_facts hn8 es cs i hi; have hm := hp.1 _ (gi_mem h2); simp only [List.length_append, List.length_cons, List.length_nil]; omega) (by have hp := prod_facts hn8 es cs i hi; have hm := hp.1 _ (gi_mem h2); simp only [List.length_append, List.length_cons, List.length_nil]; omega)) rfl ?_
                  refine JD_frz 45 rfl rfl ?_
                  refine JD_only 12 rfl (by kernel_rfl) rfl (@op_lit1 _ _ _ _ _ cL _ _ _ _ _ _ _ SlT.slk rfl rfl (ltn hn rfl) rfl rfl rfl rfl rfl) rfl ?_
                  refine JD_only 13 rfl (by kernel_rfl) rfl (op_append_m SlT.slk rfl rfl (ltn hn rfl) rfl rfl (src_own_m rfl rfl) (by have hf := flat_len (fun l => (ballG n es (gi cs i)).map (fun x => l ++ [x])) 9 ((prodL n es (cs.take i)).take j) (fun l _ => by rw [List.length_map]; exact ball_len hn8 es _); simp only [List.length_append, List.length_cons, List.length_nil, List.length_map, List.length_take] at hf ⊢; omega) (by have hf := flat_len (fun l => (ballG n es (gi cs i)).map (fun x => l ++ [x])) 9 ((prodL n es (cs.take i)).take j) (fun l _ => by rw [List.length_map]; exact ball_len hn8 es _); simp only [List.length_append, List.length_cons, List.length_nil, List.length_map, List.length_take] at hf ⊢; omega)) rfl ?_
                  refine JD_still 14 rfl (by kernel_rfl) (by kernel_rfl) (by kernel_rfl) rfl rfl (ltn hn rfl) (pure_assign rfl rfl) ?_
                  refine JD_done (by kernel_rfl) ?_
                  refine J_region ?_
                  refine jl rfl rfl (ltn hn rfl) (pure_move rfl rfl) ?_
                  refine jl rfl rfl (ltn hn rfl) (pure_add rfl rfl rfl (by omega)) ?_
                  refine jl rfl rfl (ltn hn rfl) (pure_assign rfl rfl) ?_
                  refine JL_nil ?_
                  refine ⟨q + 1, ?_, ?_, ?_⟩
                  · omega
                  · omega
                  ·
                    refine Le_sub C _ _ ⟨rfl, ⟨rfl, ⟨rfl, ⟨rfl, ⟨rfl, ⟨rfl, ⟨rfl, ⟨(eqv rfl (vi (by omega))), trivial⟩⟩⟩⟩⟩⟩⟩⟩ ⟨rfl, ⟨(eqv rfl (by rw [take_gi (l := (ballG n es (gi cs i))) (by omega), List.map_append, List.append_assoc]; rfl)), trivial⟩⟩ rfl rfl
                ·
                  refine JD_only 5 rfl (by kernel_rfl) rfl (@op_call _ _ _ _ _ _ [.tmp 44] _ _ _ _ _ (Own_spec _ (by have hp := prod_facts hn8 es cs i hi; have hm := hp.1 _ (gi_mem h2); omega)) rfl Tryz.func78 rfl rfl rfl (ltn hn rfl) ⟨rfl, rfl, trivial⟩ rfl rfl) rfl ?_
                  refine JD_only 11 rfl (by kernel_rfl) rfl (op_append_m SlT.slk rfl rfl (ltn hn rfl) rfl rfl (src_own_m rfl rfl) (by have hp := prod_facts hn8 es cs i hi; have hm := hp.1 _ (gi_mem h2); simp only [List.length_append, List.length_cons, List.length_nil]; omega) (by have hp := prod_facts hn8 es cs i hi; have hm := hp.1 _ (gi_mem h2); simp only [List.length_append, List.length_cons, List.length_nil]; omega)) rfl ?_
                  refine JD_frz 45 rfl rfl ?_
                  refine JD_only 12 rfl (by kernel_rfl) rfl (@op_lit1 _ _ _ _ _ cL _ _ _ _ _ _ _ SlT.slk rfl rfl (ltn hn rfl) rfl rfl rfl rfl rfl) rfl ?_
                  refine JD_only 13 rfl (by kernel_rfl) rfl (op_append_m SlT.slk rfl rfl (ltn hn rfl) rfl rfl (src_own_m rfl rfl) (by have hf := flat_len (fun l => (ballG n es (gi cs i)).map (fun x => l ++ [x])) 9 ((prodL n es (cs.take i)).take j) (fun l _ => by rw [List.length_map]; exact ball_len hn8 es _); simp only [List.length_append, List.length_cons, List.length_nil, List.length_map, List.length_take] at hf ⊢; omega) (by have hf := flat_len (fun l => (ballG n es (gi cs i)).map (fun x => l ++ [x])) 9 ((prodL n es (cs.take i)).take j) (fun l _ => by rw [List.length_map]; exact ball_len hn8 es _); simp only [List.length_append, List.length_cons, List.length_nil, List.length_map, List.length_take] at hf ⊢; omega)) rfl ?_
                  refine JD_still 14 rfl (by kernel_rfl) (by kernel_rfl) (by kernel_rfl) rfl rfl (ltn hn rfl) (pure_assign rfl rfl) ?_
                  refine JD_done (by kernel_rfl) ?_
                  refine J_region ?_
                  refine jl rfl rfl (ltn hn rfl) (pure_move rfl rfl) ?_
                  refine jl rfl rfl (ltn hn rfl) (pure_add rfl rfl rfl (by omega)) ?_
                  refine jl rfl rfl (ltn hn rfl) (pure_assign rfl rfl) ?_
                  refine JL_nil ?_
                  refine ⟨q + 1, ?_, ?_, ?_⟩
                  · omega
                  · omega
                  ·
                    refine Le_sub C _ _ ⟨rfl, ⟨rfl, ⟨rfl, ⟨rfl, ⟨rfl, ⟨rfl, ⟨rfl, ⟨(eqv rfl (vi (by omega))), trivial⟩⟩⟩⟩⟩⟩⟩⟩ ⟨rfl, ⟨(eqv rfl (by rw [take_gi (l := (ballG n es (gi cs i))) (by omega), List.map_append, List.append_assoc]; rfl)), trivial⟩⟩ rfl rfl
              ·
                refine J_exit ?_
                refine J_region ?_
                refine jl rfl rfl (ltn hn rfl) (pure_move rfl rfl) ?_
                refine jl rfl rfl (ltn hn rfl) (pure_add rfl rfl rfl (by omega)) ?_
                refine jl rfl rfl (ltn hn rfl) (pure_assign rfl rfl) ?_
                refine JL_nil ?_
                refine ⟨j + 1, ?_, ?_, ?_⟩
                · omega
                · omega
                ·
                  refine Le_sub C _ _ ⟨rfl, ⟨rfl, ⟨rfl, ⟨rfl, ⟨rfl, ⟨rfl, ⟨(eqv rfl (vi (by omega))), trivial⟩⟩⟩⟩⟩⟩⟩ ⟨rfl, ⟨(eqv rfl (by rw [flat_step h2, take_all (l := (ballG n es (gi cs i))) (i := q) (by omega)])), trivial⟩⟩ rfl rfl
          ·
            refine J_exit ?_
            refine J_region ?_
            refine jl rfl rfl (ltn hn rfl) (pure_move rfl rfl) ?_
            refine jl rfl rfl (ltn hn rfl) (pure_assign rfl rfl) ?_
            refine JL_nil ?_
            refine J_region ?_
            refine jl rfl rfl (ltn hn rfl) (pure_move rfl rfl) ?_
            refine jl rfl rfl (ltn hn rfl) (pure_add rfl rfl rfl (by omega)) ?_
            refine jl rfl rfl (ltn hn rfl) (pure_assign rfl rfl) ?_
            refine JL_nil ?_
            refine ⟨i + 1, ?_, ?_, ?_⟩
            · omega
            · omega
            ·
              refine Le.trans (Le_frz 21 rfl rfl) ?_
              refine Le_sub C _ _ ⟨rfl, ⟨rfl, ⟨(eqv rfl (congrArg LL (by rw [prod_step h1, take_all (l := (prodL n es (cs.take i))) (i := j) (by omega)]; rfl))), ⟨(eqv rfl (vi (by omega))), trivial⟩⟩⟩⟩ ⟨rfl, trivial⟩ rfl rfl
    ·
      refine J_exit ?_
      refine J_seq ?_
      refine J_region ?_
      refine jl_o rfl (@op_lit0 _ _ _ _ _ cL _ _ _ _ _ SlT.slk rfl rfl (ltn hn rfl) rfl) ?_
      refine jl rfl rfl (ltn hn rfl) (pure_assign rfl rfl) ?_
      refine JL_nil ?_
      refine J_seq ?_
      refine J_seq ?_
      refine J_region ?_
      refine jl rfl rfl (ltn hn rfl) (pure_assign rfl rfl) ?_
      refine JL_nil ?_
      refine J_block ?_
      refine J_le (Le_frz 55 rfl rfl) ?_
      obtain rfl : i = cs.length := by omega
      have hpl := prod_len3 hn8 es hc (Nat.le_refl _)
      rw [List.take_length] at hpl
      refine J_loop (X := Nat) (fun p => ⟨[(5, LL (prodL n es cs)), (11, LL ((((prodL n es cs).take p).map sortL).foldl putLL [])), (12, I (p : Nat))], []⟩) (fun p => p ≤ (prodL n es cs).length) (fun p => (prodL n es cs).length - p) 0 ?_ ?_ ?_
      · omega
      ·
        refine Le_sub C _ _ ⟨(eqv rfl (by rw [List.take_length]; rfl)), ⟨rfl, ⟨rfl, trivial⟩⟩⟩ trivial rfl rfl
      ·
        intro p hp0
        refine J_seq ?_
        refine J_seq ?_
        refine J_region ?_
        refine jl rfl rfl (ltn hn rfl) (pure_move rfl rfl) ?_
        refine jl rfl rfl (ltn hn rfl) (pure_move rfl rfl) ?_
        refine jl rfl rfl (ltn hn rfl) (p_len_m rfl rfl) ?_
        refine jl rfl rfl (ltn hn rfl) (pure_lss rfl rfl rfl) ?_
        refine JL_nil ?_
        refine J_cond_p rfl (fun h4 => ?_) (fun h4 => ?_)
        ·
          refine J_skip ?_
          refine J_seq ?_
          refine J_block ?_
          refine J_region ?_
          refine jl rfl rfl (ltn hn rfl) (pure_move rfl rfl) ?_
          refine jl rfl rfl (ltn hn rfl) (pure_move rfl rfl) ?_
          refine jl rfl rfl (ltn hn rfl) (pure_move rfl rfl) ?_
          refine jl rfl rfl (ltn hn rfl) (p_idx rfl rfl rfl (by omega) (mget (by omega))) ?_
          refine jl rfl rfl (ltn hn rfl) (p_ld rfl rfl rfl) ?_
          refine jl_o rfl (@op_call _ _ _ _ _ _ [.tmp 66] _ _ _ _ _ (Sorted_spec _ (by have hp := (prod_facts hn8 es cs cs.length (Nat.le_refl _)).1; rw [List.take_length] at hp; have hm := hp _ (gi_mem (l := prodL n es cs) (i := p) (by omega)); omega)) rfl Tryz.func127 rfl rfl rfl (ltn hn rfl) ⟨rfl, rfl, trivial⟩ rfl rfl) ?_
          refine jl_o rfl (@op_call _ _ _ _ _ _ [.tmp 62, .tmp 67] _ _ _ _ _ (PutLL_spec _ _ (by have ho := (out_facts es (cs := cs) hn8 p).1; omega) (by have hp := (prod_facts hn8 es cs cs.length (Nat.le_refl _)).1; rw [List.take_length] at hp; have hm := hp _ (gi_mem (l := prodL n es cs) (i := p) (by omega)); rw [sortL_len]; omega) (by have hp := (prod_facts hn8 es cs cs.length (Nat.le_refl _)).1; rw [List.take_length] at hp; have hm := hp _ (gi_mem (l := prodL n es cs) (i := p) (by omega)); intro y hy; rw [sortL_len, hm]; exact (out_facts es (cs := cs) hn8 p).2 y hy)) rfl Tryz.func126 rfl rfl rfl (ltn hn rfl) ⟨rfl, rfl, ⟨rfl, rfl, trivial⟩⟩ rfl rfl) ?_
          refine jl rfl rfl (ltn hn rfl) (pure_assign rfl rfl) ?_
          refine JL_nil ?_
          refine J_region ?_
          refine jl rfl rfl (ltn hn rfl) (pure_move rfl rfl) ?_
          refine jl rfl rfl (ltn hn rfl) (pure_add rfl rfl rfl (by omega)) ?_
          refine jl rfl rfl (ltn hn rfl) (pure_assign rfl rfl) ?_
          refine JL_nil ?_
          refine ⟨p + 1, ?_, ?_, ?_⟩
          · omega
          · omega
          ·
            refine Le_sub C _ _ ⟨rfl, ⟨(eqv rfl (congrArg LL (by rw [take_gi (l := prodL n es cs) (by omega), List.map_append, List.foldl_append]; rfl))), ⟨(eqv rfl (vi (by omega))), trivial⟩⟩⟩ trivial rfl rfl
        ·
          refine J_exit ?_
          refine J_seq ?_
          refine J_region ?_
          refine jl rfl rfl (ltn hn rfl) (pure_move rfl rfl) ?_
          refine jl rfl rfl (ltn hn rfl) (pure_assign rfl rfl) ?_
          refine JL_nil ?_
          refine J_ret ?_
          exact Fin_one rfl (Le_one rfl (congrArg LL (by rw [take_all (l := prodL n es cs) (i := p) (by omega)]; rfl)) rfl)
theorem Make_spec (n k : Nat) (es : List (Int × Int)) (hl : es.length < 2^40) (hn8 : n ≤ 8) (hk : k ≤ 3) : Spec Tryz.prog 67 [Gr (n : Int) es, I (k : Int)] (.agg [LL (cfgL n k), LL ((cfgL n k).map (mvL n es (cfgL n k))), LL ((ints n).map (ballG n es))]) [] := by
  refine Spec.intro (c := _) Tryz.func67 rfl (Nat.le_of_ble_eq_true rfl) (fun C hC hfx => ?_)
  have hn : C.n = 68 := hC
  refine (show J _ _ _ _ (⟨[(0, Gr (n : Int) es), (1, I (k : Int))], []⟩ : AS) from ?_)
  refine J_seq ?_
  refine J_region ?_
  refine jl_o rfl (op_box_agg rfl rfl (ltn hn rfl) rfl rfl rfl) ?_
  refine jl_o rfl (@op_alloc _ _ _ _ _ _ _ rfl ZrT.out rfl rfl (ltn hn rfl) rfl) ?_
  refine JL_nil ?_
  refine J_seq ?_
  refine J_region ?_
  refine jl rfl rfl (ltn hn rfl) (p_fld_b rfl rfl rfl) ?_
  refine jl rfl rfl (ltn hn rfl) (p_ld_b rfl rfl rfl rfl) ?_
  refine jl rfl rfl (ltn hn rfl) (pure_move rfl rfl) ?_
  refine jl_o rfl (@op_call _ _ _ _ _ _ [.tmp 12, .tmp 13] _ _ _ _ _ (Configs_spec _ _ (by omega) (by omega)) rfl Tryz.func112 rfl rfl rfl (ltn hn rfl) ⟨rfl, rfl, ⟨rfl, rfl, trivial⟩⟩ rfl rfl) ?_
  refine jl rfl rfl (ltn hn rfl) (pure_build (l := [(0, .tmp 14)]) rfl BdT.out (.one rfl rfl .nil) rfl) ?_
  refine jl_o rfl (@op_alloc _ _ _ _ _ _ _ rfl ZrT.out rfl rfl (ltn hn rfl) rfl) ?_
  refine jl_o rfl (op_store_box_agg rfl rfl (by exact SzT.out) rfl rfl (by exact Nat.le_of_ble_eq_true rfl) rfl rfl) ?_
  refine JL_nil ?_
  refine J_seq ?_
  refine J_seq ?_
  refine J_region ?_
  refine jl rfl rfl (ltn hn rfl) (pure_assign rfl rfl) ?_
  refine JL_nil ?_
  refine J_block ?_
  have hcl := cfg_len3 hn8 (i := k) hk
  refine J_le (Le_adoptB C _ 5 1 900 _ _ 37 1 rfl rfl rfl) ?_
  refine J_loop (X := Nat) (fun i => ⟨[(2, .box 2 0), (4, .box 4 0), (5, .box 5 0), (6, I (i : Nat))], [(2, .box 30 [I (n : Int), LP es]), (4, .box 74 [Nil, Nil, Nil]), (5, .box 74 [LL (cfgL n k), .own 900 [], Nil]), (900, Ow 37 1 cL ((((cfgL n k)).take i).map (mvL n es (cfgL n k))))]⟩) (fun i => i ≤ (cfgL n k).length) (fun i => (cfgL n k).length - i) 0 ?_ ?_ ?_
  · omega
  ·
    refine Le_sub C _ _ ⟨rfl, ⟨rfl, ⟨rfl, ⟨rfl, trivial⟩⟩⟩⟩ ⟨rfl, ⟨rfl, ⟨rfl, ⟨rfl, trivial⟩⟩⟩⟩ rfl rfl
  ·
    intro i hi
    refine J_seq ?_
    refine J_seq ?_
    refine J_region ?_
    refine jl rfl rfl (ltn hn rfl) (pure_move rfl rfl) ?_
    refine jl rfl rfl (ltn hn rfl) (p_fld_b rfl rfl rfl) ?_
    refine jl rfl rfl (ltn hn rfl) (p_ld_b rfl rfl rfl rfl) ?_
    refine jl rfl rfl (ltn hn rfl) (p_len_m rfl rfl) ?_
    refine jl rfl rfl (ltn hn rfl) (pure_lss rfl rfl rfl) ?_
    refine JL_nil ?_
    refine J_cond_p rfl (fun h1 => ?_) (fun h1 => ?_)
    ·
      refine J_skip ?_
      refine J_seq ?_
      refine J_block ?_
      refine J_seq ?_
      refine J_join (S := ⟨[(2, .box 2 0), (4, .box 4 0), (5, .box 5 0), (6, I (i : Nat)), (7, LL (movesL n es (gi (cfgL n k) i))), (8, .own 30 [])], [(2, .box 30 [I (n : Int), LP es]), (4, .box 74 [Nil, Nil, Nil]), (5, .box 74 [LL (cfgL n k), .own 900 [], Nil]), (900, Ow 37 1 cL ((((cfgL n k)).take i).map (mvL n es (cfgL n k)))), (30, Ow 3 1 cI [])]⟩) ?_ ?_
      ·
        refine J_mixed [29, 30] follows_mixed (by kernel_rfl) ?_
        refine JD1_read 0 rfl (by kernel_rfl) (by kernel_rfl) (by kernel_rfl) rfl rfl (ltn hn rfl) (p_ld_ba rfl rfl rfl (Nat.le_of_ble_eq_true rfl) rfl) rfl ?_
        refine JD1_read 1 rfl (by kernel_rfl) (by kernel_rfl) (by kernel_rfl) rfl rfl (ltn hn rfl) (p_fld_b rfl rfl rfl) rfl ?_
        refine JD1_read 2 rfl (by kernel_rfl) (by kernel_rfl) (by kernel_rfl) rfl rfl (ltn hn rfl) (p_ld_b rfl rfl rfl rfl) rfl ?_
        refine JD1_read 3 rfl (by kernel_rfl) (by kernel_rfl) (by kernel_rfl) rfl rfl (ltn hn rfl) (pure_move rfl rfl) rfl ?_
        refine JD1_read 4 rfl (by kernel_rfl) (by kernel_rfl) (by kernel_rfl) rfl rfl (ltn hn rfl) (p_idx rfl rfl rfl (by omega) (mget (by omega))) rfl ?_
        refine JD1_read 5 rfl (by kernel_rfl) (by kernel_rfl) (by kernel_rfl) rfl rfl (ltn hn rfl) (p_ld rfl rfl rfl) rfl ?_
        refine JD1_go ?_
        refine JD_two 6 7 rfl rfl (by kernel_rfl) rfl rfl (@op_call _ _ _ _ _ _ [.tmp 23, .tmp 28] _ _ _ _ _ (Moves_spec _ _ _ (by omega) (by omega) (by have hm := cfg_mem n k _ (gi_mem (l := cfgL n k) (i := i) (by omega)); omega)) rfl Tryz.func88 rfl rfl rfl (ltn hn rfl) ⟨rfl, rfl, ⟨rfl, rfl, trivial⟩⟩ rfl rfl) rfl (@op_lit0 _ _ _ _ _ cI _ _ _ _ _ SlT.slk rfl rfl (ltn hn rfl) rfl) rfl ?_ ?_
        ·
          refine JD_still 8 rfl (by kernel_rfl) (by kernel_rfl) (by kernel_rfl) rfl rfl (ltn hn rfl) (pure_assign rfl rfl) ?_
          refine JD_only 7 rfl (by kernel_rfl) rfl (@op_lit0 _ _ _ _ _ cI _ _ _ _ _ SlT.slk rfl rfl (ltn hn rfl) rfl) rfl ?_
          refine JD_still 9 rfl (by kernel_rfl) (by kernel_rfl) (by kernel_rfl) rfl rfl (ltn hn rfl) (pure_assign rfl rfl) ?_
          refine JD_done (by kernel_rfl) ?_
          refine Le_sub C _ _ ⟨rfl, ⟨rfl, ⟨rfl, ⟨rfl, ⟨rfl, ⟨rfl, trivial⟩⟩⟩⟩⟩⟩ ⟨rfl, ⟨rfl, ⟨rfl, ⟨rfl, ⟨rfl, trivial⟩⟩⟩⟩⟩ rfl rfl
        ·
          refine JD_only 6 rfl (by kernel_rfl) rfl (@op_call _ _ _ _ _ _ [.tmp 23, .tmp 28] _ _ _ _ _ (Moves_spec _ _ _ (by omega) (by omega) (by have hm := cfg_mem n k _ (gi_mem (l := cfgL n k) (i := i) (by omega)); omega)) rfl Tryz.func88 rfl rfl rfl (ltn hn rfl) ⟨rfl, rfl, ⟨rfl, rfl, trivial⟩⟩ rfl rfl) rfl ?_
          refine JD_still 8 rfl (by kernel_rfl) (by kernel_rfl) (by kernel_rfl) rfl rfl (ltn hn rfl) (pure_assign rfl rfl) ?_
          refine JD_still 9 rfl (by kernel_rfl) (by kernel_rfl) (by kernel_rfl) rfl rfl (ltn hn rfl) (pure_assign rfl rfl) ?_
          refine JD_done (by kernel_rfl) ?_
          refine Le_sub C _ _ ⟨rfl, ⟨rfl, ⟨rfl, ⟨rfl, ⟨rfl, ⟨rfl, trivial⟩⟩⟩⟩⟩⟩ ⟨rfl, ⟨rfl, ⟨rfl, ⟨rfl, ⟨rfl, trivial⟩⟩⟩⟩⟩ rfl rfl
      ·
        refine J_seq ?_
        refine J_seq ?_
        refine J_region ?_
        refine jl rfl rfl (ltn hn rfl) (pure_assign rfl rfl) ?_
        refine JL_nil ?_
        refine J_block ?_
        have hm := cfg_mem n k _ (gi_mem (l := cfgL n k) (i := i) (by omega))
        have hmf := movesL_facts hn8 es (cs := gi (cfgL n k) i) (by omega)
        refine J_loop (X := Nat) (fun j => ⟨[(2, .box 2 0), (4, .box 4 0), (5, .box 5 0), (6, I (i : Nat)), (7, LL (movesL n es (gi (cfgL n k) i))), (8, .own 30 []), (9, I (j : Nat))], [(2, .box 30 [I (n : Int), LP es]), (4, .box 74 [Nil, Nil, Nil]), (5, .box 74 [LL (cfgL n k), .own 900 [], Nil]), (900, Ow 37 1 cL ((((cfgL n k)).take i).map (mvL n es (cfgL n k)))), (30, Ow 3 1 cI (((movesL n es (gi (cfgL n k) i)).take j).map (atL (cfgL n k))))]⟩) (fun j => j ≤ (movesL n es (gi (cfgL n k) i)).length) (fun j => (movesL n es (gi (cfgL n k) i)).length - j) 0 ?_ ?_ ?_
        · omega
        ·
          refine Le_sub C _ _ ⟨rfl, ⟨rfl, ⟨rfl, ⟨rfl, ⟨rfl, ⟨rfl, ⟨rfl, trivial⟩⟩⟩⟩⟩⟩⟩ ⟨rfl, ⟨rfl, ⟨rfl, ⟨rfl, ⟨rfl, trivial⟩⟩⟩⟩⟩ rfl rfl
        ·
          intro j hj
          refine J_seq ?_
          refine J_seq ?_
          refine J_region ?_
          refine jl rfl rfl (ltn hn rfl) (pure_move rfl rfl) ?_
          refine jl rfl rfl (ltn hn rfl) (pure_move rfl rfl) ?_
          refine jl rfl rfl (ltn hn rfl) (p_len_m rfl rfl) ?_
          refine jl rfl rfl (ltn hn rfl) (pure_lss rfl rfl rfl) ?_
          refine JL_nil ?_
          refine J_cond_p rfl (fun h2 => ?_) (fun h2 => ?_)
          ·
            refine J_skip ?_
            refine J_seq ?_
            refine J_block ?_
            refine J_mixed [30, 45, 44] follows_mixed (by kernel_rfl) ?_
            refine JD1_read 0 rfl (by kernel_rfl) (by kernel_rfl) (by kernel_rfl) rfl rfl (ltn hn rfl) (pure_move rfl rfl) rfl ?_
            refine JD1_read 1 rfl (by kernel_rfl) (by kernel_rfl) (by kernel_rfl) rfl rfl (ltn hn rfl) (p_fld_b rfl rfl rfl) rfl ?_
            refine JD1_read 2 rfl (by kernel_rfl) (by kernel_rfl) (by kernel_rfl) rfl rfl (ltn hn rfl) (p_ld_b rfl rfl rfl rfl) rfl ?_
            refine JD1_read 3 rfl (by kernel_rfl) (by kernel_rfl) (by kernel_rfl) rfl rfl (ltn hn rfl) (pure_move rfl rfl) rfl ?_
            refine JD1_read 4 rfl (by kernel_rfl) (by kernel_rfl) (by kernel_rfl) rfl rfl (ltn hn rfl) (pure_move rfl rfl) rfl ?_
            refine JD1_read 5 rfl (by kernel_rfl) (by kernel_rfl) (by kernel_rfl) rfl rfl (ltn hn rfl) (p_idx rfl rfl rfl (by omega) (mget (by omega))) rfl ?_
            refine JD1_read 6 rfl (by kernel_rfl) (by kernel_rfl) (by kernel_rfl) rfl rfl (ltn hn rfl) (p_ld rfl rfl rfl) rfl ?_
            refine JD1_go ?_
            refine JD_only 7 rfl (by kernel_rfl) rfl (@op_call _ _ _ _ _ _ [.tmp 39, .tmp 43] _ _ _ _ _ (At_spec _ _ (by omega) (by have hm2 := hmf.2 _ (gi_mem (l := (movesL n es (gi (cfgL n k) i))) (i := j) (by omega)); omega) (by intro y hy; have hm3 := cfg_mem n k y hy; omega)) rfl Tryz.func71 rfl rfl rfl (ltn hn rfl) ⟨rfl, rfl, ⟨rfl, rfl, trivial⟩⟩ rfl rfl) rfl ?_
            refine JD_only 8 rfl (by kernel_rfl) rfl (@op_lit1 _ _ _ _ _ cI _ _ _ _ _ _ _ SlT.slk rfl rfl (ltn hn rfl) rfl rfl rfl rfl rfl) rfl ?_
            refine JD_only 9 rfl (by kernel_rfl) rfl (op_append_m SlT.slk rfl rfl (ltn hn rfl) rfl rfl (src_own_m rfl rfl) (by simp only [List.length_append, List.length_cons, List.length_nil, List.length_map, List.length_take]; omega) (by simp only [List.length_append, List.length_cons, List.length_nil, List.length_map, List.length_take]; omega)) rfl ?_
            refine JD_still 10 rfl (by kernel_rfl) (by kernel_rfl) (by kernel_rfl) rfl rfl (ltn hn rfl) (pure_assign rfl rfl) ?_
            refine JD_done (by kernel_rfl) ?_
            refine J_region ?_
            refine jl rfl rfl (ltn hn rfl) (pure_move rfl rfl) ?_
            refine jl rfl rfl (ltn hn rfl) (pure_add rfl rfl rfl (by omega)) ?_
            refine jl rfl rfl (ltn hn rfl) (pure_assign rfl rfl) ?_
            refine JL_nil ?_
            refine ⟨j + 1, ?_, ?_, ?_⟩
            · omega
            · omega
            ·
              refine Le_sub C _ _ ⟨rfl, ⟨rfl, ⟨rfl, ⟨rfl, ⟨rfl, ⟨rfl, ⟨(eqv rfl (vi (by omega))), trivial⟩⟩⟩⟩⟩⟩⟩ ⟨rfl, ⟨rfl, ⟨rfl, ⟨rfl, ⟨(eqv rfl (by rw [take_gi (l := (movesL n es (gi (cfgL n k) i))) (by omega), List.map_append]; rfl)), trivial⟩⟩⟩⟩⟩ rfl rfl
          ·
            refine J_exit ?_
            refine J_region ?_
            refine jl rfl rfl (ltn hn rfl) (p_fld_b rfl rfl rfl) ?_
            refine jl rfl rfl (ltn hn rfl) (p_ld_b rfl rfl rfl rfl) ?_
            refine jl rfl rfl (ltn hn rfl) (pure_move rfl rfl) ?_
            refine JL_le (Le_frz 30 rfl rfl) ?_
            refine jl_o rfl (@op_lit1 _ _ _ _ _ cL _ _ _ _ _ _ _ SlT.slk rfl rfl (ltn hn rfl) rfl rfl rfl rfl rfl) ?_
            refine jl_o rfl (op_append_m SlT.slk rfl rfl (ltn hn rfl) rfl rfl (src_own_m rfl rfl) (by simp only [List.length_append, List.length_cons, List.length_nil, List.length_map, List.length_take]; omega) (by simp only [List.length_append, List.length_cons, List.length_nil, List.length_map, List.length_take]; omega)) ?_
            refine jl rfl rfl (ltn hn rfl) (p_fld_b rfl rfl rfl) ?_
            refine jl_o rfl (op_store_box rfl rfl SzT.out rfl rfl (by exact Nat.le_of_ble_eq_true rfl) rfl rfl) ?_
            refine JL_nil ?_
            refine J_region ?_
            refine jl rfl rfl (ltn hn rfl) (pure_move rfl rfl) ?_
            refine jl rfl rfl (ltn hn rfl) (pure_add rfl rfl rfl (by omega)) ?_
            refine jl rfl rfl (ltn hn rfl) (pure_assign rfl rfl) ?_
            refine JL_nil ?_
            refine ⟨i + 1, ?_, ?_, ?_⟩
            · omega
            · omega
            ·
              refine Le_sub C _ _ ⟨rfl, ⟨rfl, ⟨rfl, ⟨(eqv rfl (vi (by omega))), trivial⟩⟩⟩⟩ ⟨rfl, ⟨rfl, ⟨rfl, ⟨(eqv rfl (by rw [take_gi (l := (cfgL n k)) (by omega), take_all (l := (movesL n es (gi (cfgL n k) i))) (i := j) (by omega), List.map_append]; rfl)), trivial⟩⟩⟩⟩ rfl rfl
    ·
      refine J_exit ?_
      refine J_seq ?_
      refine J_seq ?_
      refine J_region ?_
      refine jl rfl rfl (ltn hn rfl) (pure_assign rfl rfl) ?_
      refine JL_nil ?_
      refine J_block ?_
      refine J_le (Le_adoptB C _ 5 2 901 _ _ 37 1 rfl rfl rfl) ?_
      refine J_loop (X := Nat) (fun x => ⟨[(2, .box 2 0), (4, .box 4 0), (5, .box 5 0), (10, I (x : Nat))], [(2, .box 30 [I (n : Int), LP es]), (4, .box 74 [Nil, Nil, Nil]), (5, .box 74 [LL (cfgL n k), .own 900 [], .own 901 []]), (900, Ow 37 1 cL ((cfgL n k).map (mvL n es (cfgL n k)))), (901, Ow 37 1 cL ((ints x).map (ballG n es)))]⟩) (fun x => x ≤ n) (fun x => n - x) 0 ?_ ?_ ?_
      · omega
      ·
        refine Le_sub C _ _ ⟨rfl, ⟨rfl, ⟨rfl, ⟨rfl, trivial⟩⟩⟩⟩ ⟨rfl, ⟨rfl, ⟨rfl, ⟨(eqv rfl (by rw [take_all (l := (cfgL n k)) (i := i) (by omega)])), ⟨rfl, trivial⟩⟩⟩⟩⟩ rfl rfl
      ·
        intro x hx0
        refine J_seq ?_
        refine J_seq ?_
        refine J_region ?_
        refine jl rfl rfl (ltn hn rfl) (pure_move rfl rfl) ?_
        refine jl rfl rfl (ltn hn rfl) (p_fld_b rfl rfl rfl) ?_
        refine jl rfl rfl (ltn hn rfl) (p_ld_b rfl rfl rfl rfl) ?_
        refine jl rfl rfl (ltn hn rfl) (pure_lss rfl rfl rfl) ?_
        refine JL_nil ?_
        refine J_cond_p rfl (fun h3 => ?_) (fun h3 => ?_)
        ·
          refine J_skip ?_
          refine J_seq ?_
          refine J_block ?_
          refine J_mixed [901, 5, 63, 64] follows_mixed (by kernel_rfl) ?_
          refine JD1_read 0 rfl (by kernel_rfl) (by kernel_rfl) (by kernel_rfl) rfl rfl (ltn hn rfl) (p_fld_b rfl rfl rfl) rfl ?_
          refine JD1_read 2 rfl (by kernel_rfl) (by kernel_rfl) (by kernel_rfl) rfl rfl (ltn hn rfl) (p_ld_ba rfl rfl rfl (Nat.le_of_ble_eq_true rfl) rfl) rfl ?_
          refine JD1_read 3 rfl (by kernel_rfl) (by kernel_rfl) (by kernel_rfl) rfl rfl (ltn hn rfl) (pure_move rfl rfl) rfl ?_
          refine JD1_go ?_
          refine JD_two 1 4 rfl rfl (by kernel_rfl) rfl rfl (OpD.of_pure rfl (ltn hn rfl) (p_ld_b rfl rfl rfl rfl)) rfl (@op_call _ _ _ _ _ _ [.tmp 61, .tmp 62] _ _ _ _ _ (Ball_spec _ _ _ (by omega) (by omega)) rfl Tryz.func59 rfl rfl rfl (ltn hn rfl) ⟨rfl, rfl, ⟨rfl, rfl, trivial⟩⟩ rfl rfl) rfl ?_ ?_
          ·
            refine JD_only 4 rfl (by kernel_rfl) rfl (@op_call _ _ _ _ _ _ [.tmp 61, .tmp 62] _ _ _ _ _ (Ball_spec _ _ _ (by omega) (by omega)) rfl Tryz.func59 rfl rfl rfl (ltn hn rfl) ⟨rfl, rfl, ⟨rfl, rfl, trivial⟩⟩ rfl rfl) rfl ?_
            refine JD_only 5 rfl (by kernel_rfl) rfl (@op_lit1 _ _ _ _ _ cL _ _ _ _ _ _ _ SlT.slk rfl rfl (ltn hn rfl) rfl rfl rfl rfl rfl) rfl ?_
            refine JD_only 6 rfl (by kernel_rfl) rfl (op_append_m SlT.slk rfl rfl (ltn hn rfl) rfl rfl (src_own_m rfl rfl) (by have hil := ints_length x; simp only [List.length_append, List.length_cons, List.length_nil, List.length_map, List.length_take]; omega) (by have hil := ints_length x; simp only [List.length_append, List.length_cons, List.length_nil, List.length_map, List.length_take]; omega)) rfl ?_
            refine JD_still 7 rfl (by kernel_rfl) (by kernel_rfl) (by kernel_rfl) rfl rfl (ltn hn rfl) (p_fld_b rfl rfl rfl) ?_
            refine JD_only 8 rfl (by kernel_rfl) rfl (op_store_box rfl rfl SzT.out rfl rfl (by exact Nat.le_of_ble_eq_true rfl) rfl rfl) rfl ?_
            refine JD_done (by kernel_rfl) ?_
            refine J_region ?_
            refine jl rfl rfl (ltn hn rfl) (pure_move rfl rfl) ?_
            refine jl rfl rfl (ltn hn rfl) (pure_add rfl rfl rfl (by omega)) ?_
            refine jl rfl rfl (ltn hn rfl) (pure_assign rfl rfl) ?_
            refine JL_nil ?_
            refine ⟨x + 1, ?_, ?_, ?_⟩
            · omega
            · omega
            ·
              refine Le_sub C _ _ ⟨rfl, ⟨rfl, ⟨rfl, ⟨(eqv rfl (vi (by omega))), trivial⟩⟩⟩⟩ ⟨rfl, ⟨rfl, ⟨rfl, ⟨rfl, ⟨(eqv rfl (by rw [ints_succ, List.map_append]; rfl)), trivial⟩⟩⟩⟩⟩ rfl rfl
          ·
            refine JD_two 1 5 rfl rfl (by kernel_rfl) rfl rfl (OpD.of_pure rfl (ltn hn rfl) (p_ld_b rfl rfl rfl rfl)) rfl (@op_lit1 _ _ _ _ _ cL _ _ _ _ _ _ _ SlT.slk rfl rfl (ltn hn rfl) rfl rfl rfl rfl rfl) rfl ?_ ?_
            ·
              refine JD_only 5 rfl (by kernel_rfl) rfl (@op_lit1 _ _ _ _ _ cL _ _ _ _ _ _ _ SlT.slk rfl rfl (ltn hn rfl) rfl rfl rfl rfl rfl) rfl ?_
              refine JD_only 6 rfl (by kernel_rfl) rfl (op_append_m SlT.slk rfl rfl (ltn hn rfl) rfl rfl (src_own_m rfl rfl) (by have hil := ints_length x; simp only [List.length_append, List.length_cons, List.length_nil, List.length_map, List.length_take]; omega) (by have hil := ints_length x; simp only [List.length_append, List.length_cons, List.length_nil, List.length_map, List.length_take]; omega)) rfl ?_
              refine JD_still 7 rfl (by kernel_rfl) (by kernel_rfl) (by kernel_rfl) rfl rfl (ltn hn rfl) (p_fld_b rfl rfl rfl) ?_
              refine JD_only 8 rfl (by kernel_rfl) rfl (op_store_box rfl rfl SzT.out rfl rfl (by exact Nat.le_of_ble_eq_true rfl) rfl rfl) rfl ?_
              refine JD_done (by kernel_rfl) ?_
              refine J_region ?_
              refine jl rfl rfl (ltn hn rfl) (pure_move rfl rfl) ?_
              refine jl rfl rfl (ltn hn rfl) (pure_add rfl rfl rfl (by omega)) ?_
              refine jl rfl rfl (ltn hn rfl) (pure_assign rfl rfl) ?_
              refine JL_nil ?_
              refine ⟨x + 1, ?_, ?_, ?_⟩
              · omega
              · omega
              ·
                refine Le_sub C _ _ ⟨rfl, ⟨rfl, ⟨rfl, ⟨(eqv rfl (vi (by omega))), trivial⟩⟩⟩⟩ ⟨rfl, ⟨rfl, ⟨rfl, ⟨rfl, ⟨(eqv rfl (by rw [ints_succ, List.map_append]; rfl)), trivial⟩⟩⟩⟩⟩ rfl rfl
            ·
              refine JD_only 1 rfl (by kernel_rfl) rfl (OpD.of_pure rfl (ltn hn rfl) (p_ld_b rfl rfl rfl rfl)) rfl ?_
              refine JD_only 6 rfl (by kernel_rfl) rfl (op_append_m SlT.slk rfl rfl (ltn hn rfl) rfl rfl (src_own_m rfl rfl) (by have hil := ints_length x; simp only [List.length_append, List.length_cons, List.length_nil, List.length_map, List.length_take]; omega) (by have hil := ints_length x; simp only [List.length_append, List.length_cons, List.length_nil, List.length_map, List.length_take]; omega)) rfl ?_
              refine JD_still 7 rfl (by kernel_rfl) (by kernel_rfl) (by kernel_rfl) rfl rfl (ltn hn rfl) (p_fld_b rfl rfl rfl) ?_
              refine JD_only 8 rfl (by kernel_rfl) rfl (op_store_box rfl rfl SzT.out rfl rfl (by exact Nat.le_of_ble_eq_true rfl) rfl rfl) rfl ?_
              refine JD_done (by kernel_rfl) ?_
              refine J_region ?_
              refine jl rfl rfl (ltn hn rfl) (pure_move rfl rfl) ?_
              refine jl rfl rfl (ltn hn rfl) (pure_add rfl rfl rfl (by omega)) ?_
              refine jl rfl rfl (ltn hn rfl) (pure_assign rfl rfl) ?_
              refine JL_nil ?_
              refine ⟨x + 1, ?_, ?_, ?_⟩
              · omega
              · omega
              ·
                refine Le_sub C _ _ ⟨rfl, ⟨rfl, ⟨rfl, ⟨(eqv rfl (vi (by omega))), trivial⟩⟩⟩⟩ ⟨rfl, ⟨rfl, ⟨rfl, ⟨rfl, ⟨(eqv rfl (by rw [ints_succ, List.map_append]; rfl)), trivial⟩⟩⟩⟩⟩ rfl rfl
        ·
          refine J_exit ?_
          refine J_seq ?_
          refine J_region ?_
          refine jl rfl rfl (ltn hn rfl) (p_ld_ba rfl rfl rfl (Nat.le_of_ble_eq_true rfl) rfl) ?_
          refine jl_o rfl (op_store_box_agg rfl rfl (by exact SzT.out) rfl rfl (by exact Nat.le_of_ble_eq_true rfl) rfl rfl) ?_
          refine JL_nil ?_
          refine J_ret ?_
          obtain rfl : x = n := by omega
          exact Fin_cell (i := 4) rfl LdT.out rfl (Le.trans (Le_frz 900 rfl rfl) (Le.trans (Le_frz 901 rfl rfl) (Le_sub C _ _ ⟨rfl, trivial⟩ ⟨rfl, trivial⟩ rfl rfl))) rfl rfl rfl rfl
end Go.Proofs.YtmiijpobhajfmaaGreat.J
namespace Go.Proofs.YtmiijpobhajfmaaGreat.J
open Go Go.RowKit
set_option linter.unusedVariables false
set_option linter.unusedSimpArgs false

theorem putL_nil (n : Int) : putL [] n = [n] := by simp [putL]
theorem putL_cons (a : Int) (r : List Int) (n : Int) : putL (a :: r) n = if a < n then a :: putL r n else if a = n then a :: r else n :: a :: r := by
  unfold putL
  by_cases h : a < n
  · simp [h]
  · by_cases e : a = n
    · simp [e]
    · simp [h, e]
theorem mem_putL {y n : Int} : ∀ {l : List Int}, y ∈ putL l n ↔ y ∈ l ∨ y = n
  | [] => by simp [putL_nil]
  | a :: r => by
    rw [putL_cons]
    have ih := mem_putL (y := y) (n := n) (l := r)
    split
    · simp [ih, or_assoc]
    · split
      · rename_i h; subst h; simp; grind
      · simp; grind
theorem putL_sorted {n : Int} : ∀ {l : List Int}, l.Pairwise (· < ·) → (putL l n).Pairwise (· < ·)
  | [], _ => by simp [putL_nil]
  | a :: r, h => by
    rw [List.pairwise_cons] at h
    rw [putL_cons]
    split
    · rw [List.pairwise_cons]
      refine ⟨fun y hy => ?_, putL_sorted h.2⟩
      rcases mem_putL.1 hy with h1 | rfl
      · exact h.1 y h1
      · assumption
    · split
      · rw [List.pairwise_cons]; exact h
      · rw [List.pairwise_cons, List.pairwise_cons]
        refine ⟨fun y hy => ?_, h⟩
        rcases List.mem_cons.1 hy with rfl | h1
        · omega
        · have := h.1 y h1
          omega
theorem fold_put : ∀ (l s : List Int), s.Pairwise (· < ·) → (l.foldl putL s).Pairwise (· < ·) ∧ ∀ y, y ∈ l.foldl putL s ↔ y ∈ s ∨ y ∈ l
  | [], s, h => by simp [h]
  | a :: r, s, h => by
    obtain ⟨h1, h2⟩ := fold_put r (putL s a) (putL_sorted h)
    refine ⟨h1, fun y => ?_⟩
    rw [List.foldl_cons, h2, mem_putL, List.mem_cons]
    grind

/-! ### Sets of nodes -/
def okU (n : Nat) (u : List Int) : Prop := u.Pairwise (· < ·) ∧ ∀ x ∈ u, 0 ≤ x ∧ x < n
theorem ints_mem {n : Nat} {x : Int} : x ∈ ints n ↔ 0 ≤ x ∧ x < n := by
  simp only [ints, List.mem_map, List.mem_range]
  constructor
  · rintro ⟨a, h, rfl⟩; omega
  · rintro ⟨h1, h2⟩; exact ⟨x.toNat, by omega, by omega⟩
theorem okU_ints (n : Nat) : okU n (ints n) := by
  refine ⟨?_, fun x hx => ints_mem.1 hx⟩
  unfold ints
  rw [List.pairwise_map]
  exact List.pairwise_lt_range.imp (fun h => by omega)
theorem okU_rest {n : Nat} {u c : List Int} (h : okU n u) : okU n (restL u c) := ⟨h.1.filter _, fun x hx => h.2 x (restL_mem hx)⟩
theorem mem_rest {u c : List Int} {x : Int} : x ∈ restL u c ↔ x ∈ u ∧ x ∉ c := by simp [restL]
theorem gi_ints {α : Type} [Inhabited α] {n : Nat} {f : Int → α} {x : Int} (h : 0 ≤ x ∧ x < n) : gi ((ints n).map f) x = f x := by
  have h1 : x.toNat < n := by omega
  have h2 : ((x.toNat : Nat) : Int) = x := by omega
  simp [gi, ints, List.getD, h1, h2]
theorem mem_near {n : Nat} {es : List (Int × Int)} {x y : Int} : y ∈ nbG n es x ↔ (0 ≤ y ∧ y < n) ∧ nearG es x y = true := by
  unfold nbG
  rw [List.mem_filter, ints_mem]
theorem mem_ball {n : Nat} {es : List (Int × Int)} {x y : Int} (hx : 0 ≤ x ∧ x < n) : y ∈ ballG n es x ↔ (0 ≤ y ∧ y < n) ∧ (nearG es x y = true ∨ y = x) := by
  unfold ballG
  rw [mem_putL, mem_near]
  grind
theorem okU_ball {n : Nat} {es : List (Int × Int)} {x : Int} (hx : 0 ≤ x ∧ x < n) : okU n (ballG n es x) := by
  refine ⟨putL_sorted ((okU_ints n).1.filter _), fun y hy => ((mem_ball hx).1 hy).1⟩
theorem next_facts {n : Nat} {es : List (Int × Int)} {c : List Int} : ∀ (l s : List Int), (∀ x ∈ l, 0 ≤ x ∧ x < n) → okU n s → okU n (l.foldl (nextS ((ints n).map (ballG n es)) c) s) ∧
    ∀ y, y ∈ l.foldl (nextS ((ints n).map (ballG n es)) c) s ↔ y ∈ s ∨ ∃ x ∈ l, y ∈ ballG n es x ∧ y ∉ c
  | [], s, _, h => by simp [h]
  | a :: r, s, hl, h => by
    have ha := hl a List.mem_cons_self
    obtain ⟨f1, f2⟩ := fold_put (restL (ballG n es a) c) s h.1
    have hs : nextS ((ints n).map (ballG n es)) c s a = (restL (ballG n es a) c).foldl putL s := by
      unfold nextS
      rw [gi_ints ha]
    have hok : okU n ((restL (ballG n es a) c).foldl putL s) := ⟨f1, fun y hy => by
      rcases (f2 y).1 hy with h1 | h1
      · exact h.2 y h1
      · exact (okU_ball ha).2 y (restL_mem h1)⟩
    obtain ⟨g1, g2⟩ := next_facts (es := es) (c := c) r ((restL (ballG n es a) c).foldl putL s) (fun x hx => hl x (List.mem_cons_of_mem _ hx)) hok
    rw [List.foldl_cons, hs]
    refine ⟨g1, fun y => ?_⟩
    rw [g2, f2, mem_rest]
    simp only [List.mem_cons, exists_eq_or_imp]
    grind
theorem next_ok {n : Nat} {es : List (Int × Int)} {u c : List Int} (hu : okU n u) : okU n (nextL ((ints n).map (ballG n es)) u c) := (next_facts _ _ (fun x hx => hu.2 x (restL_mem hx)) ⟨List.Pairwise.nil, fun x hx => by cases hx⟩).1
theorem mem_next {n : Nat} {es : List (Int × Int)} {u c : List Int} (hu : okU n u) {y : Int} : y ∈ nextL ((ints n).map (ballG n es)) u c ↔ ∃ x, x ∈ u ∧ x ∉ c ∧ y ∈ ballG n es x ∧ y ∉ c := by
  have h := (next_facts (es := es) (c := c) (restL u c) [] (fun x hx => hu.2 x (restL_mem hx)) ⟨List.Pairwise.nil, fun x hx => by cases hx⟩).2 y
  unfold nextL
  rw [h]
  simp only [List.not_mem_nil, false_or, mem_rest]
  grind

/-! ### The number of a set -/
theorem numL_nonneg (l : List Int) : 0 ≤ numL l := by
  induction l with
  | nil => simp [numL]
  | cons a r ih =>
    have h : (0 : Int) < 2 ^ a.toNat := Int.pow_pos (by omega)
    simp only [numL, List.map_cons, List.sum_cons] at ih ⊢
    omega
theorem numL_lt : ∀ (n : Nat) (u : List Int), okU n u → numL u < 2 ^ n
  | 0, u, h => by
    cases u with
    | nil => simp [numL]
    | cons a r => have := h.2 a List.mem_cons_self; omega
  | n + 1, u, h => by
    by_cases hm : (n : Int) ∈ u
    · obtain ⟨v, rfl⟩ : ∃ v, u = v ++ [(n : Int)] := by
        rcases List.eq_nil_or_concat u with rfl | ⟨v, x, rfl⟩
        · cases hm
        · refine ⟨v, ?_⟩
          rw [List.concat_eq_append] at hm h ⊢
          have h1 := List.pairwise_append.1 h.1
          rcases List.mem_append.1 hm with h2 | h2
          · have h3 := h1.2.2 _ h2 x (by simp)
            have h4 := (h.2 x (by simp)).2
            omega
          · simp at h2; rw [h2]
      have h1 := List.pairwise_append.1 h.1
      have h2 := numL_lt n v ⟨h1.1, fun x hx => ⟨(h.2 x (by simp [hx])).1, h1.2.2 x hx _ (by simp)⟩⟩
      rw [numL_snoc, Int.pow_succ]
      simp only [Int.toNat_natCast]
      omega
    · have h2 := numL_lt n u ⟨h.1, fun x hx => ⟨(h.2 x hx).1, by
        have h3 := (h.2 x hx).2
        have h4 : x ≠ n := fun e => hm (e ▸ hx)
        omega⟩⟩
      have h3 : (0 : Int) < 2 ^ n := Int.pow_pos (by omega)
      rw [Int.pow_succ]
      omega
theorem nodup_len : ∀ (N : Nat) (l : List Nat), l.Nodup → (∀ x ∈ l, x < N) → l.length ≤ N
  | 0, l, _, h => by
    cases l with
    | nil => simp
    | cons a r => have := h a List.mem_cons_self; omega
  | N + 1, l, hn, h => by
    have h1 := nodup_len N (l.erase N) (hn.erase N) (fun x hx => by
      have h2 := h x (List.mem_of_mem_erase hx)
      have h3 : x ≠ N := fun e => by subst e; exact (List.Nodup.not_mem_erase hn) hx
      omega)
    have h4 : l.length ≤ (l.erase N).length + 1 := by
      rw [List.length_erase]
      split <;> omega
    omega

/-! ### The states of the search -/
abbrev Stt := Int × List Int × Int
def codeS (n : Nat) (s : Stt) : Int := s.1 * 2 ^ n + numL s.2.1
structure okSt (n M : Nat) (s : Stt) (j : Nat) : Prop where
  p0 : 0 ≤ s.1
  p1 : s.1 < M
  u : okU n s.2.1
  b0 : -1 ≤ s.2.2
  b1 : s.2.2 < j
theorem code_bd {n M : Nat} {s : Stt} {j : Nat} (h : okSt n M s j) : 0 ≤ codeS n s ∧ codeS n s < M * 2 ^ n := by
  have h1 := numL_nonneg s.2.1
  have h2 := numL_lt n _ h.u
  have h3 : (0 : Int) < 2 ^ n := Int.pow_pos (by omega)
  have h4 : 0 ≤ s.1 * 2 ^ n := Int.mul_nonneg h.p0 (by omega)
  have h5 : (s.1 + 1) * 2 ^ n ≤ (M : Int) * 2 ^ n := Int.mul_le_mul_of_nonneg_right (by have := h.p1; omega) (by omega)
  rw [Int.add_mul, Int.one_mul] at h5
  unfold codeS
  omega
theorem code_inj {n : Nat} {p q : Int} {u v : List Int} (hu : okU n u) (hv : okU n v) (h : p * 2 ^ n + numL u = q * 2 ^ n + numL v) : p = q ∧ numL u = numL v := by
  have h1 := numL_nonneg u
  have h2 := numL_lt n _ hu
  have h3 := numL_nonneg v
  have h4 := numL_lt n _ hv
  have h5 : (0 : Int) < 2 ^ n := Int.pow_pos (by omega)
  have e : p = q := by
    rcases Int.lt_trichotomy p q with h6 | h6 | h6
    · have : (p + 1) * 2 ^ n ≤ q * 2 ^ n := Int.mul_le_mul_of_nonneg_right (by omega) (by omega)
      rw [Int.add_mul, Int.one_mul] at this
      omega
    · exact h6
    · have : (q + 1) * 2 ^ n ≤ p * 2 ^ n := Int.mul_le_mul_of_nonneg_right (by omega) (by omega)
      rw [Int.add_mul, Int.one_mul] at this
      omega
  subst e
  exact ⟨rfl, by omega⟩
def seenT (N n : Nat) (st : List Stt) : List Bool := (List.range N).map (fun (c : Nat) => st.any (fun s => decide (codeS n s = c)))
theorem seenT_len (N n : Nat) (st : List Stt) : (seenT N n st).length = N := by simp [seenT]
theorem seenT_nil (N n : Nat) : List.replicate N false = seenT N n [] := by
  apply List.ext_getElem (by simp [seenT])
  intro i h1 h2
  simp [seenT]
theorem seenT_set {N n : Nat} {st : List Stt} {s : Stt} (h : 0 ≤ codeS n s ∧ codeS n s < N) : (seenT N n st).set (codeS n s).toNat true = seenT N n (st ++ [s]) := by
  apply List.ext_getElem (by simp [seenT])
  intro i h1 h2
  simp only [seenT, List.getElem_set, List.getElem_map, List.getElem_range, List.any_append, List.any_cons, List.any_nil, Bool.or_false]
  split
  · have : codeS n s = (i : Int) := by omega
    simp [this]
  · have : codeS n s ≠ (i : Int) := by omega
    simp [this]
theorem seenT_get {N n : Nat} {st : List Stt} {s : Stt} (h : 0 ≤ codeS n s ∧ codeS n s < N) : gi (seenT N n st) (codeS n s) = st.any (fun t => decide (codeS n t = codeS n s)) := by
  have h1 : (codeS n s).toNat < N := by omega
  have h2 : (((codeS n s).toNat : Nat) : Int) = codeS n s := by omega
  simp [gi, seenT, List.getD, h1, h2]
def addS (n : Nat) (st : List Stt) (s : Stt) : List Stt := if st.any (fun t => decide (codeS n t = codeS n s)) then st else st ++ [s]
def expS (n : Nat) (cfg balls : List (List Int)) (i : Nat) (s : Stt) (st : List Stt) (l : List Int) : List Stt := l.foldl (fun st m => addS n st (m, nextL balls s.2.1 (gi cfg m), (i : Int))) st
def initS (n : Nat) (cfg : List (List Int)) (c : Nat) : List Stt := (List.range c).map (fun (j : Nat) => ((j : Int), restL (ints n) (gi cfg j), -1))
def bfsS (n : Nat) (cfg mv balls : List (List Int)) : Nat → List Stt → Nat → Option (List Stt × Nat)
  | 0, _, _ => none
  | f + 1, st, i => if i < st.length then (if (gi st i).2.1.length = 0 then some (st, i) else bfsS n cfg mv balls f (expS n cfg balls i (gi st i) st (gi mv (gi st i).1)) (i + 1)) else none
/-- All states are good, and of different codes. -/
structure okL (n M : Nat) (st : List Stt) : Prop where
  each : ∀ j, j < st.length → okSt n M (gi st j) j
  nd : (st.map (fun s => (codeS n s).toNat)).Nodup
theorem okL.len {n M : Nat} {st : List Stt} (h : okL n M st) : st.length ≤ M * 2 ^ n := by
  have h1 := nodup_len (M * 2 ^ n) _ h.nd (fun x hx => by
    obtain ⟨s, hs, rfl⟩ := List.mem_map.1 hx
    obtain ⟨j, hj, rfl⟩ := List.mem_iff_getElem.1 hs
    have h2 := code_bd (h.each j hj)
    have h3 : gi st j = st[j] := by simp [gi, List.getD, hj]
    rw [h3] at h2
    have h4 : ((M * 2 ^ n : Nat) : Int) = (M : Int) * 2 ^ n := by simp
    omega)
  simpa using h1
theorem gi_app {α : Type} [Inhabited α] {l r : List α} {j : Nat} (h : j < l.length) : gi (l ++ r) j = gi l j := by
  simp [gi, List.getD, List.getElem?_append_left h]
theorem gi_last {α : Type} [Inhabited α] {l : List α} {x : α} : gi (l ++ [x]) l.length = x := by
  simp [gi, List.getD]
theorem mem_gi {α : Type} [Inhabited α] {l : List α} {x : α} (h : x ∈ l) : ∃ j, j < l.length ∧ gi l j = x := by
  obtain ⟨j, hj, rfl⟩ := List.mem_iff_getElem.1 h
  exact ⟨j, hj, by simp [gi, List.getD, hj]⟩
theorem okL.snoc {n M : Nat} {st : List Stt} {s : Stt} (h : okL n M st) (hs : okSt n M s st.length) (hn : st.any (fun t => decide (codeS n t = codeS n s)) = false) : okL n M (st ++ [s]) := by
  refine ⟨fun j hj => ?_, ?_⟩
  · by_cases e : j < st.length
    · rw [gi_app e]; exact h.each j e
    · obtain rfl : j = st.length := by simp at hj; omega
      rw [gi_last]; exact hs
  · rw [List.map_append, List.nodup_append]
    refine ⟨h.nd, by simp, fun a ha b hb e => ?_⟩
    obtain ⟨t, ht, rfl⟩ := List.mem_map.1 ha
    simp only [List.map_cons, List.map_nil, List.mem_singleton] at hb
    subst hb
    obtain ⟨j, hj, rfl⟩ := mem_gi ht
    have h1 := code_bd (h.each j hj)
    have h2 := code_bd hs
    have h3 := List.any_eq_false.1 hn _ ht
    simp only [decide_eq_true_eq] at h3
    omega
theorem okL.add {n M : Nat} {st : List Stt} {s : Stt} (h : okL n M st) (hs : okSt n M s st.length) : okL n M (addS n st s) := by
  unfold addS
  split
  · exact h
  · rename_i hn
    exact h.snoc hs (by simpa using hn)
theorem addS_pre (n : Nat) (st : List Stt) (s : Stt) : ∃ r, addS n st s = st ++ r := by
  unfold addS
  split
  · exact ⟨[], by simp⟩
  · exact ⟨[s], rfl⟩
theorem expS_facts {n M : Nat} {cfg : List (List Int)} {es : List (Int × Int)} {i : Nat} {s : Stt} (hs : okU n s.2.1) : ∀ (l : List Int) (st : List Stt), (∀ m ∈ l, 0 ≤ m ∧ m < M) → okL n M st → i < st.length → okL n M (expS n cfg ((ints n).map (ballG n es)) i s st l) ∧ ∃ r, expS n cfg ((ints n).map (ballG n es)) i s st l = st ++ r
  | [], st, _, h, _ => ⟨h, [], by simp [expS]⟩
  | m :: l, st, hm, h, hi => by
    have h1 := hm m List.mem_cons_self
    obtain ⟨r, hr⟩ := addS_pre n st (m, nextL ((ints n).map (ballG n es)) s.2.1 (gi cfg m), (i : Int))
    have h2 := h.add (s := (m, nextL ((ints n).map (ballG n es)) s.2.1 (gi cfg m), (i : Int))) ⟨h1.1, h1.2, next_ok hs, by show -1 ≤ (i : Int); omega, by show (i : Int) < st.length; omega⟩
    obtain ⟨g1, r2, g2⟩ := expS_facts (cfg := cfg) (es := es) (i := i) hs l _ (fun x hx => hm x (List.mem_cons_of_mem _ hx)) h2 (by rw [hr, List.length_append]; omega)
    refine ⟨g1, r ++ r2, ?_⟩
    rw [← List.append_assoc, ← hr]
    exact g2
theorem initS_len (n : Nat) (cfg : List (List Int)) (c : Nat) : (initS n cfg c).length = c := by simp [initS]
theorem initS_gi {n : Nat} {cfg : List (List Int)} {c j : Nat} (h : j < c) : gi (initS n cfg c) j = ((j : Int), restL (ints n) (gi cfg j), -1) := by
  simp [gi, initS, List.getD, h]
theorem initS_succ (n : Nat) (cfg : List (List Int)) (c : Nat) : initS n cfg (c + 1) = initS n cfg c ++ [((c : Int), restL (ints n) (gi cfg c), -1)] := by
  simp [initS, List.range_succ]
theorem initS_ok (n M : Nat) (cfg : List (List Int)) : ∀ c, c ≤ M → okL n M (initS n cfg c)
  | 0, _ => ⟨fun j hj => by simp [initS] at hj, by simp [initS]⟩
  | c + 1, h => by
    rw [initS_succ]
    have ih := initS_ok n M cfg c (by omega)
    refine ih.snoc ⟨by show (0 : Int) ≤ c; omega, by show (c : Int) < M; omega, okU_rest (okU_ints n), by show (-1 : Int) ≤ -1; omega, by show (-1 : Int) < _; omega⟩ ?_
    rw [List.any_eq_false]
    intro t ht
    obtain ⟨j, hj, rfl⟩ := mem_gi ht
    rw [initS_len] at hj
    rw [initS_gi hj]
    intro e
    have := (code_inj (okU_rest (okU_ints n)) (okU_rest (okU_ints n)) (of_decide_eq_true e)).1
    omega
def traceA (cfg : List (List Int)) (st : List Stt) : Nat → Int → List (List Int) → List (List Int)
  | 0, _, out => out
  | f + 1, at_, out => if 0 ≤ at_ then traceA cfg st f (gi st at_).2.2 ([gi cfg (gi st at_).1] ++ out) else out
def walkS (n k : Nat) (es : List (Int × Int)) : List (List Int) × Bool :=
  match bfsS n (cfgL n k) ((cfgL n k).map (mvL n es (cfgL n k))) ((ints n).map (ballG n es)) ((cfgL n k).length * 2 ^ n + 1) (initS n (cfgL n k) (cfgL n k).length) 0 with
  | some (st, i) => (traceA (cfgL n k) st (i + 1) i [], true)
  | none => ([], false)
end Go.Proofs.YtmiijpobhajfmaaGreat.J
namespace Go.Proofs.YtmiijpobhajfmaaGreat.J
open Go Go.RowKit
set_option linter.unusedVariables false
set_option linter.unusedSimpArgs false

theorem traceA_done (cfg : List (List Int)) (st : List Stt) (f : Nat) (a : Int) (out : List (List Int)) (h : a < 0) : traceA cfg st f a out = out := by
  cases f with
  | zero => rfl
  | succ f => simp [traceA, show ¬ 0 ≤ a by omega]
theorem traceA_go {cfg : List (List Int)} {st : List Stt} {f : Nat} {a : Int} {out : List (List Int)} (h : 0 ≤ a) (hf : a.toNat + 1 ≤ f) : ∃ f', f = f' + 1 ∧ traceA cfg st f a out = traceA cfg st f' (gi st a).2.2 ([gi cfg (gi st a).1] ++ out) := by
  obtain ⟨f', rfl⟩ : ∃ f', f = f' + 1 := ⟨f - 1, by omega⟩
  exact ⟨f', rfl, by simp [traceA, h]⟩

theorem Trace_spec (cfg a2 a3 : List (List Int)) (st : List Stt) (j n : Nat) (hj : j < st.length) (hst : st.length < 2^40) (hok : ∀ q, q < st.length → okSt n cfg.length (gi st q) q) (hl : ∀ y ∈ cfg, y.length < 2^30) : Spec Tryz.prog 107 [.agg [LL cfg, LL a2, LL a3], LS st, I (j : Int)] (LL (traceA cfg st (j + 1) j [])) [] := by
  refine Spec.intro (c := _) Tryz.func107 rfl (Nat.le_of_ble_eq_true rfl) (fun C hC hfx => ?_)
  have hn : C.n = 30 := hC
  refine (show J _ _ _ _ (⟨[(0, .agg [LL cfg, LL a2, LL a3]), (1, LS st), (2, I (j : Int))], []⟩ : AS) from ?_)
  refine J_seq ?_
  refine J_region ?_
  refine jl_o rfl (op_box_agg rfl rfl (ltn hn rfl) rfl rfl rfl) ?_
  refine jl rfl rfl (ltn hn rfl) (pure_assign rfl rfl) ?_
  refine JL_nil ?_
  refine J_seq ?_
  refine J_region ?_
  refine jl_o rfl (@op_lit0 _ _ _ _ _ cL _ _ _ _ _ SlT.slk rfl rfl (ltn hn rfl) rfl) ?_
  refine jl rfl rfl (ltn hn rfl) (pure_assign rfl rfl) ?_
  refine JL_nil ?_
  refine J_seq ?_
  refine J_block ?_
  refine J_le (Le_frz 8 rfl rfl) ?_
  refine J_loop (X := Nat × List (List Int)) (fun x => ⟨[(1, LS st), (2, I ((x.1 : Int) - 1)), (3, .box 3 0), (7, LL x.2)], [(3, .box 74 [LL cfg, LL a2, LL a3])]⟩) (fun x => x.1 ≤ st.length ∧ x.2.length + x.1 ≤ st.length ∧ ∃ f, x.1 ≤ f ∧ traceA cfg st f ((x.1 : Int) - 1) x.2 = traceA cfg st (j + 1) j []) (fun x => x.1) (j + 1, []) ?_ ?_ ?_
  · exact ⟨by simp; omega, by simp; omega, j + 1, by simp, by simp⟩
  ·
    refine Le_sub C _ _ ⟨rfl, ⟨(eqv rfl (vi (by simp))), ⟨rfl, ⟨rfl, trivial⟩⟩⟩⟩ ⟨rfl, trivial⟩ rfl rfl
  ·
    intro x hR
    obtain ⟨hx1, hx2, f, hf, he⟩ := hR
    refine J_seq ?_
    refine J_seq ?_
    refine J_region ?_
    refine jl rfl rfl (ltn hn rfl) (pure_move rfl rfl) ?_
    refine jl rfl rfl (ltn hn rfl) (pure_geq rfl rfl rfl) ?_
    refine JL_nil ?_
    refine J_cond_p rfl (fun h1 => ?_) (fun h1 => ?_)
    ·
      refine J_skip ?_
      refine J_block ?_
      refine J_seq ?_
      refine J_mixed [20, 21] follows_mixed (by kernel_rfl) ?_
      refine JD1_read 0 rfl (by kernel_rfl) (by kernel_rfl) (by kernel_rfl) rfl rfl (ltn hn rfl) (p_fld_b rfl rfl rfl) rfl ?_
      refine JD1_read 1 rfl (by kernel_rfl) (by kernel_rfl) (by kernel_rfl) rfl rfl (ltn hn rfl) (p_ld_b rfl rfl rfl rfl) rfl ?_
      refine JD1_read 2 rfl (by kernel_rfl) (by kernel_rfl) (by kernel_rfl) rfl rfl (ltn hn rfl) (pure_move rfl rfl) rfl ?_
      refine JD1_read 3 rfl (by kernel_rfl) (by kernel_rfl) (by kernel_rfl) rfl rfl (ltn hn rfl) (pure_move rfl rfl) rfl ?_
      refine JD1_read 4 rfl (by kernel_rfl) (by kernel_rfl) (by kernel_rfl) rfl rfl (ltn hn rfl) (p_idx rfl rfl rfl (by omega) (mget (by omega))) rfl ?_
      refine JD1_read 5 rfl (by kernel_rfl) (by kernel_rfl) (by kernel_rfl) rfl rfl (ltn hn rfl) (p_fld rfl rfl) rfl ?_
      refine JD1_read 6 rfl (by kernel_rfl) (by kernel_rfl) (by kernel_rfl) rfl rfl (ltn hn rfl) (p_ld rfl rfl rfl) rfl ?_
      refine JD1_read 7 rfl (by kernel_rfl) (by kernel_rfl) (by kernel_rfl) rfl rfl (ltn hn rfl) (p_idx rfl rfl rfl (by have ho := hok (x.1 - 1) (by omega); have hz : (((x.1 - 1 : Nat) : Int)) = (x.1 : Int) - 1 := (by omega); rw [hz] at ho; have hp0 := ho.p0; have hp1 := ho.p1; omega) (mget (by have ho := hok (x.1 - 1) (by omega); have hz : (((x.1 - 1 : Nat) : Int)) = (x.1 : Int) - 1 := (by omega); rw [hz] at ho; have hp0 := ho.p0; have hp1 := ho.p1; omega))) rfl ?_
      refine JD1_read 8 rfl (by kernel_rfl) (by kernel_rfl) (by kernel_rfl) rfl rfl (ltn hn rfl) (p_ld rfl rfl rfl) rfl ?_
      refine JD1_read 11 rfl (by kernel_rfl) (by kernel_rfl) (by kernel_rfl) rfl rfl (ltn hn rfl) (pure_move rfl rfl) rfl ?_
      refine JD1_go ?_
      refine JD_only 9 rfl (by kernel_rfl) rfl (@op_call _ _ _ _ _ _ [.tmp 19] _ _ _ _ _ (Own_spec _ (by have ho := hok (x.1 - 1) (by omega); have hz : (((x.1 - 1 : Nat) : Int)) = (x.1 : Int) - 1 := (by omega); rw [hz] at ho; have hp0 := ho.p0; have hp1 := ho.p1; have hy := hl _ (gi_memI (l := cfg) (x := (gi st ((x.1 : Int) - 1)).1) (by omega)); omega)) rfl Tryz.func78 rfl rfl rfl (ltn hn rfl) ⟨rfl, rfl, trivial⟩ rfl rfl) rfl ?_
      refine JD_frz 20 rfl rfl ?_
      refine JD_only 10 rfl (by kernel_rfl) rfl (@op_lit1 _ _ _ _ _ cL _ _ _ _ _ _ _ SlT.slk rfl rfl (ltn hn rfl) rfl rfl rfl rfl rfl) rfl ?_
      refine JD_only 12 rfl (by kernel_rfl) rfl (op_append_m SlT.slk rfl rfl (ltn hn rfl) rfl rfl (src_sl_m rfl) (by simp only [List.length_append, List.length_cons, List.length_nil]; omega) (by simp only [List.length_append, List.length_cons, List.length_nil]; omega)) rfl ?_
      refine JD_still 13 rfl (by kernel_rfl) (by kernel_rfl) (by kernel_rfl) rfl rfl (ltn hn rfl) (pure_assign rfl rfl) ?_
      refine JD_done (by kernel_rfl) ?_
      refine J_region ?_
      refine jl rfl rfl (ltn hn rfl) (pure_move rfl rfl) ?_
      refine jl rfl rfl (ltn hn rfl) (pure_move rfl rfl) ?_
      refine jl rfl rfl (ltn hn rfl) (p_idx rfl rfl rfl (by omega) (mget (by omega))) ?_
      refine jl rfl rfl (ltn hn rfl) (p_fld rfl rfl) ?_
      refine jl rfl rfl (ltn hn rfl) (p_ld rfl rfl rfl) ?_
      refine jl rfl rfl (ltn hn rfl) (pure_assign rfl rfl) ?_
      refine JL_nil ?_
      have ho := hok (x.1 - 1) (by omega)
      have hz : (((x.1 - 1 : Nat) : Int)) = (x.1 : Int) - 1 := by omega
      rw [hz] at ho
      have hb0 := ho.b0
      have hb1 := ho.b1
      obtain ⟨f2, hf2, he2⟩ := traceA_go (cfg := cfg) (st := st) (f := f) (a := (x.1 : Int) - 1) (out := x.2) (by omega) (by omega)
      refine ⟨(((gi st ((x.1 : Int) - 1)).2.2 + 1).toNat, [gi cfg (gi st ((x.1 : Int) - 1)).1] ++ x.2), ?_, ?_, ?_⟩
      · exact ⟨by simp; omega, by simp; omega, f2, by simp; omega, by rw [← he, he2]; congr 1; simp; omega⟩
      · simp; omega
      ·
        refine Le.trans (Le_frz 21 rfl rfl) ?_
        refine Le_sub C _ _ ⟨rfl, ⟨(eqv rfl (vi (by simp; omega))), ⟨rfl, ⟨rfl, trivial⟩⟩⟩⟩ ⟨rfl, trivial⟩ rfl rfl
    ·
      refine J_exit ?_
      refine J_seq ?_
      refine J_region ?_
      refine jl rfl rfl (ltn hn rfl) (pure_move rfl rfl) ?_
      refine jl rfl rfl (ltn hn rfl) (pure_assign rfl rfl) ?_
      refine JL_nil ?_
      refine J_ret ?_
      exact Fin_one rfl (Le_one rfl (congrArg LL (by rw [traceA_done _ _ _ _ _ (by omega)] at he; exact he)) rfl)
end Go.Proofs.YtmiijpobhajfmaaGreat.J
namespace Go.Proofs.YtmiijpobhajfmaaGreat.J
open Go Go.RowKit
set_option linter.unusedVariables false
set_option linter.unusedSimpArgs false

theorem insL_nil (n : Int) : insL [] n = [n] := by simp [insL]
theorem insL_cons (a : Int) (r : List Int) (n : Int) : insL (a :: r) n = if a ≤ n then a :: insL r n else n :: a :: r := by
  unfold insL
  by_cases h : a ≤ n <;> simp [h]
theorem mem_insL {y n : Int} : ∀ {l : List Int}, y ∈ insL l n ↔ y ∈ l ∨ y = n
  | [] => by simp [insL_nil]
  | a :: r => by
    rw [insL_cons]
    have ih := mem_insL (y := y) (n := n) (l := r)
    split
    · simp [ih, or_assoc]
    · simp; grind
theorem insL_sorted {n : Int} : ∀ {l : List Int}, l.Pairwise (· ≤ ·) → (insL l n).Pairwise (· ≤ ·)
  | [], _ => by simp [insL_nil]
  | a :: r, h => by
    rw [List.pairwise_cons] at h
    rw [insL_cons]
    split
    · rw [List.pairwise_cons]
      refine ⟨fun y hy => ?_, insL_sorted h.2⟩
      rcases mem_insL.1 hy with h1 | rfl
      · exact h.1 y h1
      · assumption
    · rw [List.pairwise_cons, List.pairwise_cons]
      refine ⟨fun y hy => ?_, h⟩
      rcases List.mem_cons.1 hy with rfl | h1
      · omega
      · have := h.1 y h1
        omega
theorem fold_ins : ∀ (l s : List Int), s.Pairwise (· ≤ ·) → (l.foldl insL s).Pairwise (· ≤ ·) ∧ ∀ y, y ∈ l.foldl insL s ↔ y ∈ s ∨ y ∈ l
  | [], s, h => by simp [h]
  | a :: r, s, h => by
    obtain ⟨h1, h2⟩ := fold_ins r (insL s a) (insL_sorted h)
    refine ⟨h1, fun y => ?_⟩
    rw [List.foldl_cons, h2, mem_insL, List.mem_cons]
    grind
theorem sortL_sorted (l : List Int) : (sortL l).Pairwise (· ≤ ·) := (fold_ins l [] List.Pairwise.nil).1
theorem mem_sortL {l : List Int} {y : Int} : y ∈ sortL l ↔ y ∈ l := by
  have := (fold_ins l [] List.Pairwise.nil).2 y
  simpa [sortL] using this
theorem cfg_complete (n : Nat) : ∀ (k : Nat) (l : List Int), l.length = k → l.Pairwise (· ≤ ·) → (∀ x ∈ l, 0 ≤ x ∧ x < n) → l ∈ cfgL n k
  | 0, l, hl, _, _ => by
    obtain rfl := List.eq_nil_of_length_eq_zero hl
    simp [cfgL]
  | k + 1, l, hl, hs, hx => by
    rcases List.eq_nil_or_concat l with rfl | ⟨v, x, rfl⟩
    · simp at hl
    · rw [List.concat_eq_append] at *
      have hp := List.pairwise_append.1 hs
      have hv : v.length = k := by simpa using hl
      have h1 := cfg_complete n k v hv hp.1 (fun y hy => hx y (by simp [hy]))
      have h2 := hx x (by simp)
      have hb := cfg_start h1
      have hst : start k v ≤ x := by
        unfold start
        split
        · exact hp.2.2 _ (gi_memI (l := v) (x := (k : Int) - 1) (by omega)) x (by simp)
        · omega
      simp only [cfgL, List.mem_flatMap, extL, List.mem_map]
      refine ⟨v, h1, x, ?_, rfl⟩
      simp only [span, List.mem_map, List.mem_range]
      exact ⟨(x - start k v).toNat, by omega, by omega⟩
theorem prod_elems {n : Nat} {es : List (Int × Int)} {cs : List Int} (hc : ∀ c ∈ cs, 0 ≤ c ∧ c < n) : ∀ i, i ≤ cs.length → ∀ z ∈ prodL n es (cs.take i), ∀ x ∈ z, 0 ≤ x ∧ x < n
  | 0, _ => by
    intro z hz x hx
    simp [prodL] at hz
    subst hz
    cases hx
  | i + 1, h => by
    intro z hz x hx
    rw [prod_step (by omega)] at hz
    simp only [stepM, List.mem_flatMap, List.mem_map] at hz
    obtain ⟨l0, h0, y, hy, rfl⟩ := hz
    rcases List.mem_append.1 hx with hx | hx
    · exact prod_elems hc i (by omega) l0 h0 x hx
    · obtain rfl : x = y := by simpa using hx
      have hg := hc _ (gi_mem (l := cs) (i := i) (by omega))
      exact ((mem_ball hg).1 hy).1
theorem moves_cfg {n k : Nat} (hn : n ≤ 8) {es : List (Int × Int)} {cs : List Int} (hk : k ≤ 3) (h : cs ∈ cfgL n k) : ∀ y ∈ movesL n es cs, y ∈ cfgL n k := by
  obtain ⟨h1, h2⟩ := cfg_mem n k cs h
  intro y hy
  have h3 := (movesL_facts hn es (cs := cs) (by omega)).2 y hy
  obtain ⟨_, h4⟩ := fold_putLL ((prodL n es cs).map sortL) []
  rcases h4 y hy with h5 | h5
  · cases h5
  · obtain ⟨z, hz, rfl⟩ := List.mem_map.1 h5
    have h6 := prod_elems (es := es) h2 cs.length (Nat.le_refl _)
    rw [List.take_length] at h6
    exact cfg_complete n k _ (by omega) (sortL_sorted z) (fun x hx => h6 z hz x (mem_sortL.1 hx))
theorem at_mem {l : List (List Int)} {x : List Int} (h : x ∈ l) : 0 ≤ atL l x ∧ atL l x < l.length ∧ gi l (atL l x) = x := by
  unfold atL
  cases hf : l.findIdx? (fun y => decide (y = x)) with
  | none =>
    rw [List.findIdx?_eq_none_iff] at hf
    have := hf x h
    simp at this
  | some i =>
    rw [List.findIdx?_eq_some_iff_getElem] at hf
    obtain ⟨h1, h2, _⟩ := hf
    refine ⟨by simp, by simp; exact h1, ?_⟩
    simp only [decide_eq_true_eq] at h2
    simp [gi, List.getD, h1, h2]
theorem mv_bd {n k : Nat} (hn : n ≤ 8) {es : List (Int × Int)} {cs : List Int} (hk : k ≤ 3) (h : cs ∈ cfgL n k) : ∀ m ∈ mvL n es (cfgL n k) cs, 0 ≤ m ∧ m < (cfgL n k).length := by
  intro m hm
  obtain ⟨y, hy, rfl⟩ := List.mem_map.1 hm
  have := at_mem (moves_cfg hn hk h y hy)
  omega
theorem gi_map {α β : Type} [Inhabited α] [Inhabited β] {l : List α} {f : α → β} {x : Int} (h : x.toNat < l.length) : gi (l.map f) x = f (gi l x) := by
  simp [gi, List.getD, h]
theorem okU_len {n : Nat} {u : List Int} (h : okU n u) : u.length ≤ n := by
  have h1 := nodup_len n (u.map Int.toNat) (by
    rw [List.Nodup, List.pairwise_map]
    refine h.1.imp_of_mem (fun {a b} ha hb hab => ?_)
    have := h.2 a ha
    have := h.2 b hb
    omega) (fun x hx => by
    obtain ⟨y, hy, rfl⟩ := List.mem_map.1 hx
    have := h.2 y hy
    omega)
  simpa using h1
theorem shlC {c : Int} {n : Nat} (hc : 0 ≤ c ∧ c ≤ 1000) (hn : n ≤ 8) : IntKind.wrap .i64 (c * 2 ^ min (n : Int).toNat (IntKind.bits .i64)) = c * 2 ^ n := by
  have h : min (n : Int).toNat (IntKind.bits .i64) = n := by
    have : IntKind.bits .i64 = 64 := rfl
    rw [this]
    omega
  rw [h]
  have h1 : (0 : Int) < 2 ^ n := Int.pow_pos (by omega)
  have h2 : (2 : Int) ^ n ≤ 256 := by
    have e : ((2 ^ n : Nat) : Int) = (2 : Int) ^ n := by simp
    have h5 : (2 : Nat) ^ n ≤ 2 ^ 8 := Nat.pow_le_pow_right (by omega) hn
    omega
  have h3 : 0 ≤ c * 2 ^ n := Int.mul_nonneg hc.1 (by omega)
  have h4 : c * 2 ^ n ≤ 1000 * 256 := Int.mul_le_mul hc.2 h2 (by omega) (by omega)
  exact wrap_id (by omega)
theorem pow_bd {n : Nat} (hn : n ≤ 8) : 1 ≤ 2 ^ n ∧ 2 ^ n ≤ 256 := by
  have h : (2 : Nat) ^ n ≤ 2 ^ 8 := Nat.pow_le_pow_right (by omega) hn
  have h1 : 0 < (2 : Nat) ^ n := Nat.pow_pos (by omega)
  omega
theorem exp_step {n : Nat} {cfg balls : List (List Int)} {i : Nat} {s : Stt} {st : List Stt} {l : List Int} {j : Nat} (h : (j : Int) < l.length) : expS n cfg balls i s st (l.take (j + 1)) = addS n (expS n cfg balls i s st (l.take j)) (gi l j, nextL balls s.2.1 (gi cfg (gi l j)), (i : Int)) := by
  unfold expS
  rw [take_gi (by omega), List.foldl_append]
  rfl
theorem walk_hit {n k : Nat} {es : List (Int × Int)} {st : List Stt} {i : Nat} (h : bfsS n (cfgL n k) ((cfgL n k).map (mvL n es (cfgL n k))) ((ints n).map (ballG n es)) ((cfgL n k).length * 2 ^ n + 1) (initS n (cfgL n k) (cfgL n k).length) 0 = some (st, i)) : walkS n k es = (traceA (cfgL n k) st (i + 1) i [], true) := by
  unfold walkS
  rw [h]
theorem walk_miss {n k : Nat} {es : List (Int × Int)} (h : bfsS n (cfgL n k) ((cfgL n k).map (mvL n es (cfgL n k))) ((ints n).map (ballG n es)) ((cfgL n k).length * 2 ^ n + 1) (initS n (cfgL n k) (cfgL n k).length) 0 = none) : walkS n k es = ([], false) := by
  unfold walkS
  rw [h]
end Go.Proofs.YtmiijpobhajfmaaGreat.J
namespace Go.Proofs.YtmiijpobhajfmaaGreat.J
open Go Go.RowKit
set_option linter.unusedVariables false
set_option linter.unusedSimpArgs false

theorem seen_full {n N : Nat} {st : List Stt} {s : Stt} {c : Int} (hc : c = codeS n s) (h : 0 ≤ codeS n s ∧ codeS n s < N) : Ow 4 1 cB ((seenT N n st).set c.toNat true) = Ow 4 1 cB (seenT N n (st ++ [s])) := by
  rw [hc, seenT_set h]

theorem Shortest_spec (n k : Nat) (es : List (Int × Int)) (hl : es.length < 2^40) (hn8 : n ≤ 8) (hk : k ≤ 3) : Spec Tryz.prog 63 [Gr (n : Int) es, I (k : Int)] (.tup [LL (walkS n k es).1, B (walkS n k es).2]) [] := by
  refine Spec.intro (c := _) Tryz.func63 rfl (Nat.le_of_ble_eq_true rfl) (fun C hC hfx => ?_)
  have hn : C.n = 134 := hC
  refine (show J _ _ _ _ (⟨[(0, Gr (n : Int) es), (1, I (k : Int))], []⟩ : AS) from ?_)
  have hcl := cfg_len3 hn8 hk
  have hpw := pow_bd hn8
  have hpc : (((2 ^ n : Nat)) : Int) = (2 : Int) ^ n := by simp
  have hNN : (cfgL n k).length * 2 ^ n ≤ 512 * 256 := Nat.mul_le_mul hcl hpw.2
  have hcm := fun y hy => cfg_mem n k y hy
  have hcode : ∀ c : Nat, c < (cfgL n k).length → 0 ≤ codeS n ((c : Int), restL (ints n) (gi (cfgL n k) c), -1) ∧ codeS n ((c : Int), restL (ints n) (gi (cfgL n k) c), -1) < ((cfgL n k).length * 2 ^ n : Nat) := fun c h => by have := code_bd (M := (cfgL n k).length) (j := c + 1) (s := ((c : Int), restL (ints n) (gi (cfgL n k) c), -1)) ⟨by show (0 : Int) ≤ c; omega, by show (c : Int) < _; omega, okU_rest (okU_ints n), by show (-1 : Int) ≤ -1; omega, by show (-1 : Int) < _; omega⟩; rw [Int.natCast_mul, hpc]; exact this
  refine J_seq ?_
  refine J_region ?_
  refine jl_o rfl (op_box_agg rfl rfl (ltn hn rfl) rfl rfl rfl) ?_
  refine jl rfl rfl (ltn hn rfl) (pure_assign rfl rfl) ?_
  refine jl rfl rfl (ltn hn rfl) (pure_assign rfl rfl) ?_
  refine JL_nil ?_
  refine J_seq ?_
  refine J_region ?_
  refine jl rfl rfl (ltn hn rfl) (p_ld_ba rfl rfl rfl (Nat.le_of_ble_eq_true rfl) rfl) ?_
  refine jl rfl rfl (ltn hn rfl) (pure_move rfl rfl) ?_
  refine jl_o rfl (@op_call _ _ _ _ _ _ [.tmp 16, .tmp 17] _ _ _ _ _ (Make_spec _ _ _ (by omega) (by omega) (by omega)) rfl Tryz.func67 rfl rfl rfl (ltn hn rfl) ⟨rfl, rfl, ⟨rfl, rfl, trivial⟩⟩ rfl rfl) ?_
  refine jl_o rfl (@op_alloc _ _ _ _ _ _ _ rfl ZrT.out rfl rfl (ltn hn rfl) rfl) ?_
  refine jl_o rfl (op_store_box_agg rfl rfl (by exact SzT.out) rfl rfl (by exact Nat.le_of_ble_eq_true rfl) rfl rfl) ?_
  refine JL_nil ?_
  refine J_seq ?_
  refine J_join (S := ⟨[(2, .box 2 0), (6, .box 6 0), (7, .own 19 []), (8, .own 26 [])], [(2, .box 30 [I (n : Int), LP es]), (6, .box 74 [LL (cfgL n k), LL ((cfgL n k).map (mvL n es (cfgL n k))), LL ((ints n).map (ballG n es))]), (19, Ow 105 3 cS []), (26, Ow 4 1 cB (seenT ((cfgL n k).length * 2 ^ n) n []))]⟩) ?_ ?_
  ·
    refine J_mixed [19, 26] follows_mixed (by kernel_rfl) ?_
    refine JD1_read 1 rfl (by kernel_rfl) (by kernel_rfl) (by kernel_rfl) rfl rfl (ltn hn rfl) (p_fld_b rfl rfl rfl) rfl ?_
    refine JD1_read 2 rfl (by kernel_rfl) (by kernel_rfl) (by kernel_rfl) rfl rfl (ltn hn rfl) (p_ld_b rfl rfl rfl rfl) rfl ?_
    refine JD1_read 3 rfl (by kernel_rfl) (by kernel_rfl) (by kernel_rfl) rfl rfl (ltn hn rfl) (p_len_m rfl rfl) rfl ?_
    refine JD1_read 4 rfl (by kernel_rfl) (by kernel_rfl) (by kernel_rfl) rfl rfl (ltn hn rfl) (p_fld_b rfl rfl rfl) rfl ?_
    refine JD1_read 5 rfl (by kernel_rfl) (by kernel_rfl) (by kernel_rfl) rfl rfl (ltn hn rfl) (p_ld_b rfl rfl rfl rfl) rfl ?_
    refine JD1_read 6 rfl (by kernel_rfl) (by kernel_rfl) (by kernel_rfl) rfl rfl (ltn hn rfl) (p_shl rfl rfl rfl (by omega)) rfl ?_
    refine JD1_go ?_
    refine JD_two 0 7 rfl rfl (by kernel_rfl) rfl rfl (@op_lit0 _ _ _ _ _ cS _ _ _ _ _ SlT.slk rfl rfl (ltn hn rfl) rfl) rfl (@op_make_m _ _ _ _ _ cB false _ _ _ _ _ _ _ _ _ SlT.slk ZrT.out rfl rfl rfl (ltn hn rfl) rfl rfl rfl (by rw [shlC (by omega) hn8]; have hq : ((cfgL n k).length : Int) * 2 ^ n = ((cfgL n k).length * 2 ^ n : Nat) := (by rw [Int.natCast_mul, hpc]); omega) (by rw [shlC (by omega) hn8]; have hq : ((cfgL n k).length : Int) * 2 ^ n = ((cfgL n k).length * 2 ^ n : Nat) := (by rw [Int.natCast_mul, hpc]); omega) (by rw [shlC (by omega) hn8]; have hq : ((cfgL n k).length : Int) * 2 ^ n = ((cfgL n k).length * 2 ^ n : Nat) := (by rw [Int.natCast_mul, hpc]); omega)) rfl ?_ ?_
    ·
      refine JD_still 8 rfl (by kernel_rfl) (by kernel_rfl) (by kernel_rfl) rfl rfl (ltn hn rfl) (pure_assign rfl rfl) ?_
      refine JD_only 7 rfl (by kernel_rfl) rfl (@op_make_m _ _ _ _ _ cB false _ _ _ _ _ _ _ _ _ SlT.slk ZrT.out rfl rfl rfl (ltn hn rfl) rfl rfl rfl (by rw [shlC (by omega) hn8]; have hq : ((cfgL n k).length : Int) * 2 ^ n = ((cfgL n k).length * 2 ^ n : Nat) := (by rw [Int.natCast_mul, hpc]); omega) (by rw [shlC (by omega) hn8]; have hq : ((cfgL n k).length : Int) * 2 ^ n = ((cfgL n k).length * 2 ^ n : Nat) := (by rw [Int.natCast_mul, hpc]); omega) (by rw [shlC (by omega) hn8]; have hq : ((cfgL n k).length : Int) * 2 ^ n = ((cfgL n k).length * 2 ^ n : Nat) := (by rw [Int.natCast_mul, hpc]); omega)) rfl ?_
      refine JD_still 9 rfl (by kernel_rfl) (by kernel_rfl) (by kernel_rfl) rfl rfl (ltn hn rfl) (pure_assign rfl rfl) ?_
      refine JD_done (by kernel_rfl) ?_
      refine Le_sub C _ _ ⟨rfl, ⟨rfl, ⟨rfl, ⟨rfl, trivial⟩⟩⟩⟩ ⟨rfl, ⟨rfl, ⟨rfl, ⟨(eqv rfl (by rw [shlC (by omega) hn8]; exact congrArg (Ow 4 1 cB) (by rw [← hpc, ← Int.natCast_mul, Int.toNat_natCast]; exact seenT_nil _ _))), trivial⟩⟩⟩⟩ rfl rfl
    ·
      refine JD_only 0 rfl (by kernel_rfl) rfl (@op_lit0 _ _ _ _ _ cS _ _ _ _ _ SlT.slk rfl rfl (ltn hn rfl) rfl) rfl ?_
      refine JD_still 8 rfl (by kernel_rfl) (by kernel_rfl) (by kernel_rfl) rfl rfl (ltn hn rfl) (pure_assign rfl rfl) ?_
      refine JD_still 9 rfl (by kernel_rfl) (by kernel_rfl) (by kernel_rfl) rfl rfl (ltn hn rfl) (pure_assign rfl rfl) ?_
      refine JD_done (by kernel_rfl) ?_
      refine Le_sub C _ _ ⟨rfl, ⟨rfl, ⟨rfl, ⟨rfl, trivial⟩⟩⟩⟩ ⟨rfl, ⟨rfl, ⟨rfl, ⟨(eqv rfl (by rw [shlC (by omega) hn8]; exact congrArg (Ow 4 1 cB) (by rw [← hpc, ← Int.natCast_mul, Int.toNat_natCast]; exact seenT_nil _ _))), trivial⟩⟩⟩⟩ rfl rfl
  ·
    refine J_seq ?_
    refine J_seq ?_
    refine J_region ?_
    refine jl rfl rfl (ltn hn rfl) (pure_assign rfl rfl) ?_
    refine JL_nil ?_
    refine J_block ?_
    refine J_loop (X := Nat) (fun c => ⟨[(2, .box 2 0), (6, .box 6 0), (7, .own 19 []), (8, .own 26 []), (9, I (c : Nat))], [(2, .box 30 [I (n : Int), LP es]), (6, .box 74 [LL (cfgL n k), LL ((cfgL n k).map (mvL n es (cfgL n k))), LL ((ints n).map (ballG n es))]), (19, Ow 105 3 cS (initS n (cfgL n k) c)), (26, Ow 4 1 cB (seenT ((cfgL n k).length * 2 ^ n) n (initS n (cfgL n k) c)))]⟩) (fun c => c ≤ (cfgL n k).length) (fun c => (cfgL n k).length - c) 0 ?_ ?_ ?_
    · omega
    ·
      refine Le_sub C _ _ ⟨rfl, ⟨rfl, ⟨rfl, ⟨rfl, ⟨rfl, trivial⟩⟩⟩⟩⟩ ⟨rfl, ⟨rfl, ⟨rfl, ⟨rfl, trivial⟩⟩⟩⟩ rfl rfl
    ·
      intro c hc
      refine J_seq ?_
      refine J_seq ?_
      refine J_region ?_
      refine jl rfl rfl (ltn hn rfl) (pure_move rfl rfl) ?_
      refine jl rfl rfl (ltn hn rfl) (p_fld_b rfl rfl rfl) ?_
      refine jl rfl rfl (ltn hn rfl) (p_ld_b rfl rfl rfl rfl) ?_
      refine jl rfl rfl (ltn hn rfl) (p_len_m rfl rfl) ?_
      refine jl rfl rfl (ltn hn rfl) (pure_lss rfl rfl rfl) ?_
      refine JL_nil ?_
      refine J_cond_p rfl (fun h1 => ?_) (fun h1 => ?_)
      ·
        refine J_skip ?_
        refine J_seq ?_
        refine J_block ?_
        refine J_seq ?_
        refine J_mixed [35, 41] follows_mixed (by kernel_rfl) ?_
        refine JD1_read 0 rfl (by kernel_rfl) (by kernel_rfl) (by kernel_rfl) rfl rfl (ltn hn rfl) (p_ld_ba rfl rfl rfl (Nat.le_of_ble_eq_true rfl) rfl) rfl ?_
        refine JD1_read 2 rfl (by kernel_rfl) (by kernel_rfl) (by kernel_rfl) rfl rfl (ltn hn rfl) (p_fld_b rfl rfl rfl) rfl ?_
        refine JD1_read 3 rfl (by kernel_rfl) (by kernel_rfl) (by kernel_rfl) rfl rfl (ltn hn rfl) (p_ld_b rfl rfl rfl rfl) rfl ?_
        refine JD1_read 4 rfl (by kernel_rfl) (by kernel_rfl) (by kernel_rfl) rfl rfl (ltn hn rfl) (pure_move rfl rfl) rfl ?_
        refine JD1_read 5 rfl (by kernel_rfl) (by kernel_rfl) (by kernel_rfl) rfl rfl (ltn hn rfl) (p_idx rfl rfl rfl (by omega) (mget (by omega))) rfl ?_
        refine JD1_read 6 rfl (by kernel_rfl) (by kernel_rfl) (by kernel_rfl) rfl rfl (ltn hn rfl) (p_ld rfl rfl rfl) rfl ?_
        refine JD1_go ?_
        refine JD_only 1 rfl (by kernel_rfl) rfl (@op_call _ _ _ _ _ _ [.tmp 34] _ _ _ _ _ (All_spec _ _ (by omega)) rfl Tryz.func90 rfl rfl rfl (ltn hn rfl) ⟨rfl, rfl, trivial⟩ rfl rfl) rfl ?_
        refine JD_only 7 rfl (by kernel_rfl) rfl (@op_call _ _ _ _ _ _ [.tmp 35, .tmp 40] _ _ _ _ _ (Rest_spec _ _ (by rw [ints_length]; omega) (by have := (hcm _ (gi_mem (l := cfgL n k) (i := c) (by omega))).1; omega)) rfl Tryz.func89 rfl rfl rfl (ltn hn rfl) ⟨rfl, rfl, ⟨rfl, rfl, trivial⟩⟩ rfl rfl) rfl ?_
        refine JD_still 8 rfl (by kernel_rfl) (by kernel_rfl) (by kernel_rfl) rfl rfl (ltn hn rfl) (pure_assign rfl rfl) ?_
        refine JD_done (by kernel_rfl) ?_
        refine J_seq ?_
        refine J_region ?_
        refine jl rfl rfl (ltn hn rfl) (pure_move rfl rfl) ?_
        refine jl rfl rfl (ltn hn rfl) (pure_move rfl rfl) ?_
        refine jl rfl rfl (ltn hn rfl) (pure_move rfl rfl) ?_
        refine jl rfl rfl (ltn hn rfl) (pure_build (l := [(0, .tmp 43), (1, .tmp 44), (2, .const (.int .i64 (-1)))]) rfl BdT.out (.one rfl rfl (.one rfl rfl (.one rfl rfl .nil))) rfl) ?_
        refine jl_o rfl (@op_lit1_agg _ _ _ _ _ cS (_, _, _) _ _ _ _ _ _ _ SlT.slk rfl rfl (ltn hn rfl) rfl rfl rfl rfl (Nat.le_of_ble_eq_true rfl) rfl rfl) ?_
        refine jl_o rfl (op_append_m SlT.slk rfl rfl (ltn hn rfl) rfl rfl (src_own_m rfl rfl) (by rw [initS_len]; simp only [List.length_cons, List.length_nil]; omega) (by rw [initS_len]; simp only [List.length_cons, List.length_nil]; omega)) ?_
        refine jl rfl rfl (ltn hn rfl) (pure_assign rfl rfl) ?_
        refine JL_nil ?_
        refine J_mixed [26] follows_mixed (by kernel_rfl) ?_
        refine JD1_read 0 rfl (by kernel_rfl) (by kernel_rfl) (by kernel_rfl) rfl rfl (ltn hn rfl) (pure_move rfl rfl) rfl ?_
        refine JD1_read 1 rfl (by kernel_rfl) (by kernel_rfl) (by kernel_rfl) rfl rfl (ltn hn rfl) (pure_move rfl rfl) rfl ?_
        refine JD1_read 2 rfl (by kernel_rfl) (by kernel_rfl) (by kernel_rfl) rfl rfl (ltn hn rfl) (p_fld_b rfl rfl rfl) rfl ?_
        refine JD1_read 3 rfl (by kernel_rfl) (by kernel_rfl) (by kernel_rfl) rfl rfl (ltn hn rfl) (p_ld_b rfl rfl rfl rfl) rfl ?_
        refine JD1_read 4 rfl (by kernel_rfl) (by kernel_rfl) (by kernel_rfl) rfl rfl (ltn hn rfl) (p_shl rfl rfl rfl (by omega)) rfl ?_
        refine JD1_read 5 rfl (by kernel_rfl) (by kernel_rfl) (by kernel_rfl) rfl rfl (ltn hn rfl) (pure_move rfl rfl) rfl ?_
        refine JD1_go ?_
        refine JD_only 6 rfl (by kernel_rfl) rfl (@op_call _ _ _ _ _ _ [.tmp 53] _ _ _ _ _ (Number_spec _ (by have := okU_len (okU_rest (c := gi (cfgL n k) c) (okU_ints n)); omega) (by intro y hy; have := (okU_rest (okU_ints n)).2 y hy; omega)) rfl Tryz.func106 rfl rfl rfl (ltn hn rfl) ⟨rfl, rfl, trivial⟩ rfl rfl) rfl ?_
        refine JD_still 7 rfl (by kernel_rfl) (by kernel_rfl) (by kernel_rfl) rfl rfl (ltn hn rfl) (pure_add rfl rfl rfl (by have h := hcode c (by omega); simp only [codeS] at h; rw [shlC (by omega) hn8]; omega)) ?_
        refine JD_still 8 rfl (by kernel_rfl) (by kernel_rfl) (by kernel_rfl) rfl rfl (ltn hn rfl) (p_idx_own_m rfl rfl rfl rfl (by have h := hcode c (by omega); simp only [codeS] at h; rw [shlC (by omega) hn8]; (try rw [seenT_len]); omega) (by have h := hcode c (by omega); simp only [codeS] at h; rw [shlC (by omega) hn8]; (try rw [seenT_len]); omega)) ?_
        refine JD_only 9 rfl (by kernel_rfl) rfl (@op_store_row_m _ _ _ _ _ cB _ _ _ _ _ _ _ _ _ SzT.out rfl rfl rfl rfl rfl rfl rfl rfl (fun _ => rfl) (by have h := hcode c (by omega); simp only [codeS] at h; rw [shlC (by omega) hn8, seenT_len]; omega)) rfl ?_
        refine JD_done (by kernel_rfl) ?_
        refine J_region ?_
        refine jl rfl rfl (ltn hn rfl) (pure_move rfl rfl) ?_
        refine jl rfl rfl (ltn hn rfl) (pure_add rfl rfl rfl (by omega)) ?_
        refine jl rfl rfl (ltn hn rfl) (pure_assign rfl rfl) ?_
        refine JL_nil ?_
        refine ⟨c + 1, ?_, ?_, ?_⟩
        · omega
        · omega
        ·
          refine Le_sub C _ _ ⟨rfl, ⟨rfl, ⟨rfl, ⟨rfl, ⟨(eqv rfl (vi (by omega))), trivial⟩⟩⟩⟩⟩ ⟨rfl, ⟨rfl, ⟨(eqv rfl (by rw [initS_succ]; rfl)), ⟨(eqv rfl (by rw [initS_succ]; exact seen_full (by rw [shlC (by omega) hn8]; rfl) (hcode c (by omega)))), trivial⟩⟩⟩⟩ rfl rfl
      ·
        refine J_exit ?_
        refine J_seq ?_
        refine J_seq ?_
        refine J_region ?_
        refine jl rfl rfl (ltn hn rfl) (pure_assign rfl rfl) ?_
        refine JL_nil ?_
        refine J_block ?_
        have hce : c = (cfgL n k).length := by omega
        refine J_loop (X := Nat × List Stt) (fun x => ⟨[(2, .box 2 0), (6, .box 6 0), (7, .own 19 []), (8, .own 26 []), (11, I (x.1 : Nat))], [(2, .box 30 [I (n : Int), LP es]), (6, .box 74 [LL (cfgL n k), LL ((cfgL n k).map (mvL n es (cfgL n k))), LL ((ints n).map (ballG n es))]), (19, Ow 105 3 cS x.2), (26, Ow 4 1 cB (seenT ((cfgL n k).length * 2 ^ n) n x.2))]⟩) (fun x => x.1 ≤ x.2.length ∧ okL n (cfgL n k).length x.2 ∧ bfsS n (cfgL n k) ((cfgL n k).map (mvL n es (cfgL n k))) ((ints n).map (ballG n es)) (((cfgL n k).length * 2 ^ n) + 1 - x.1) x.2 x.1 = bfsS n (cfgL n k) ((cfgL n k).map (mvL n es (cfgL n k))) ((ints n).map (ballG n es)) (((cfgL n k).length * 2 ^ n) + 1) (initS n (cfgL n k) (cfgL n k).length) 0) (fun x => ((cfgL n k).length * 2 ^ n) + 1 - x.1) (0, initS n (cfgL n k) (cfgL n k).length) ?_ ?_ ?_
        · exact ⟨by simp, initS_ok _ _ _ _ (Nat.le_refl _), rfl⟩
        ·
          refine Le_sub C _ _ ⟨rfl, ⟨rfl, ⟨rfl, ⟨rfl, ⟨rfl, trivial⟩⟩⟩⟩⟩ ⟨rfl, ⟨rfl, ⟨(eqv rfl (by rw [hce])), ⟨(eqv rfl (by rw [hce])), trivial⟩⟩⟩⟩ rfl rfl
        ·
          intro x hR
          obtain ⟨hx1, hx2, hx3⟩ := hR
          refine J_seq ?_
          refine J_seq ?_
          refine J_region ?_
          refine jl rfl rfl (ltn hn rfl) (pure_move rfl rfl) ?_
          refine jl rfl rfl (ltn hn rfl) (pure_move rfl rfl) ?_
          refine jl rfl rfl (ltn hn rfl) (p_len_om rfl rfl rfl) ?_
          refine jl rfl rfl (ltn hn rfl) (pure_lss rfl rfl rfl) ?_
          refine JL_nil ?_
          refine J_cond_p rfl (fun h2 => ?_) (fun h2 => ?_)
          ·
            refine J_skip ?_
            refine J_seq ?_
            refine J_block ?_
            refine J_seq ?_
            refine J_seq ?_
            refine J_region ?_
            refine jl rfl rfl (ltn hn rfl) (pure_move rfl rfl) ?_
            refine jl rfl rfl (ltn hn rfl) (pure_move rfl rfl) ?_
            refine jl rfl rfl (ltn hn rfl) (p_idx_own_m rfl rfl rfl rfl (by omega) (by omega)) ?_
            refine jl rfl rfl (ltn hn rfl) (p_fld_o rfl rfl rfl) ?_
            refine jl rfl rfl (ltn hn rfl) (p_ld_o rfl rfl rfl rfl (mget (by omega)) rfl) ?_
            refine jl rfl rfl (ltn hn rfl) (p_len_m rfl rfl) ?_
            refine jl rfl rfl (ltn hn rfl) (pure_eql rfl rfl rfl) ?_
            refine JL_nil ?_
            refine J_cond_p rfl (fun h3 => ?_) (fun h3 => ?_)
            ·
              refine J_seq ?_
              refine J_region ?_
              refine jl rfl rfl (ltn hn rfl) (p_ld_ba rfl rfl rfl (Nat.le_of_ble_eq_true rfl) rfl) ?_
              refine jl rfl rfl (ltn hn rfl) (pure_move rfl rfl) ?_
              refine jl rfl rfl (ltn hn rfl) (pure_move rfl rfl) ?_
              refine JL_le (Le_frz 19 rfl rfl) ?_
              refine jl_o rfl (@op_call _ _ _ _ _ _ [.tmp 70, .tmp 71, .tmp 72] _ _ _ _ _ (Trace_spec _ _ _ _ _ n (by omega) (by have := hx2.len; omega) (fun q hq => hx2.each q hq) (by intro y hy; have := (hcm y hy).1; omega)) rfl Tryz.func107 rfl rfl rfl (ltn hn rfl) ⟨rfl, rfl, ⟨rfl, rfl, ⟨rfl, rfl, trivial⟩⟩⟩ rfl rfl) ?_
              refine jl rfl rfl (ltn hn rfl) (pure_assign rfl rfl) ?_
              refine jl rfl rfl (ltn hn rfl) (pure_assign rfl rfl) ?_
              refine JL_nil ?_
              refine J_ret ?_
              have hlen := hx2.len
              have hw := walk_hit (es := es) (st := x.2) (i := x.1) (hx3.symm.trans (by obtain ⟨f, hf⟩ : ∃ f, ((cfgL n k).length * 2 ^ n) + 1 - x.1 = f + 1 := ⟨((cfgL n k).length * 2 ^ n) - x.1, by omega⟩; rw [hf]; simp only [bfsS]; rw [if_pos (by omega), if_pos (by omega)]))
              exact Fin_two rfl (Le_sub C _ _ ⟨(eqv rfl (congrArg LL (by rw [hw]))), (eqv rfl (vb (by rw [hw]))), trivial⟩ trivial rfl rfl) rfl
            ·
              refine J_skip ?_
              refine J_seq ?_
              refine J_draw follows_mixed (by kernel_rfl) ?_
              refine jq rfl rfl (ltn hn rfl) (p_fld_b rfl rfl rfl) ?_
              refine jq rfl rfl (ltn hn rfl) (p_ld_b rfl rfl rfl rfl) ?_
              refine jq rfl rfl (ltn hn rfl) (pure_move rfl rfl) ?_
              refine jq rfl rfl (ltn hn rfl) (pure_move rfl rfl) ?_
              refine jq rfl rfl (ltn hn rfl) (p_idx_own_m rfl rfl rfl rfl (by omega) (by omega)) ?_
              refine jq rfl rfl (ltn hn rfl) (p_fld_o rfl rfl rfl) ?_
              refine jq rfl rfl (ltn hn rfl) (p_ld_o rfl rfl rfl rfl (mget (by omega)) rfl) ?_
              refine jq rfl rfl (ltn hn rfl) (p_idx rfl rfl rfl (by have hst := hx2.each x.1 (by omega); have hs0 := hst.p0; have hs1 := hst.p1; (try rw [List.length_map]); omega) (mget (by have hst := hx2.each x.1 (by omega); have hs0 := hst.p0; have hs1 := hst.p1; (try rw [List.length_map]); omega))) ?_
              refine jq rfl rfl (ltn hn rfl) (p_ld rfl rfl rfl) ?_
              refine jq rfl rfl (ltn hn rfl) (pure_assign rfl rfl) ?_
              refine JQ_nil ?_
              refine J_seq ?_
              refine J_region ?_
              refine jl rfl rfl (ltn hn rfl) (pure_assign rfl rfl) ?_
              refine JL_nil ?_
              refine J_block ?_
              have hst := hx2.each x.1 (by omega)
              have hs0 := hst.p0
              have hs1 := hst.p1
              have hmlb : ∀ m ∈ (gi ((cfgL n k).map (mvL n es (cfgL n k))) (gi x.2 x.1).1), 0 ≤ m ∧ m < (cfgL n k).length := by rw [gi_map (by omega)]; exact mv_bd hn8 hk (gi_memI (by omega))
              have hmlL : (gi ((cfgL n k).map (mvL n es (cfgL n k))) (gi x.2 x.1).1).length ≤ 729 := by rw [gi_map (by omega)]; unfold mvL; rw [List.length_map]; exact (movesL_facts hn8 es (by rw [(hcm _ (gi_memI (by omega))).1]; exact hk)).1
              have hEF : ∀ j, okL n (cfgL n k).length (expS n (cfgL n k) ((ints n).map (ballG n es)) x.1 (gi x.2 x.1) x.2 ((gi ((cfgL n k).map (mvL n es (cfgL n k))) (gi x.2 x.1).1).take j)) ∧ ∃ r, (expS n (cfgL n k) ((ints n).map (ballG n es)) x.1 (gi x.2 x.1) x.2 ((gi ((cfgL n k).map (mvL n es (cfgL n k))) (gi x.2 x.1).1).take j)) = x.2 ++ r := fun j => expS_facts hst.u _ _ (fun m hm => hmlb m (List.mem_of_mem_take hm)) hx2 (by omega)
              have hcj : ∀ j : Nat, (j : Int) < (gi ((cfgL n k).map (mvL n es (cfgL n k))) (gi x.2 x.1).1).length → 0 ≤ codeS n ((gi (gi ((cfgL n k).map (mvL n es (cfgL n k))) (gi x.2 x.1).1) j, nextL ((ints n).map (ballG n es)) (gi x.2 x.1).2.1 (gi (cfgL n k) (gi (gi ((cfgL n k).map (mvL n es (cfgL n k))) (gi x.2 x.1).1) j)), (x.1 : Int)) : Stt) ∧ codeS n ((gi (gi ((cfgL n k).map (mvL n es (cfgL n k))) (gi x.2 x.1).1) j, nextL ((ints n).map (ballG n es)) (gi x.2 x.1).2.1 (gi (cfgL n k) (gi (gi ((cfgL n k).map (mvL n es (cfgL n k))) (gi x.2 x.1).1) j)), (x.1 : Int)) : Stt) < (((cfgL n k).length * 2 ^ n) : Nat) := fun j hj => by have hmb := hmlb _ (gi_mem (i := j) hj); have := code_bd (M := (cfgL n k).length) (j := x.1 + 1) (s := ((gi (gi ((cfgL n k).map (mvL n es (cfgL n k))) (gi x.2 x.1).1) j, nextL ((ints n).map (ballG n es)) (gi x.2 x.1).2.1 (gi (cfgL n k) (gi (gi ((cfgL n k).map (mvL n es (cfgL n k))) (gi x.2 x.1).1) j)), (x.1 : Int)) : Stt)) ⟨hmb.1, hmb.2, next_ok hst.u, by show (-1 : Int) ≤ (x.1 : Nat); omega, by show ((x.1 : Nat) : Int) < _; omega⟩; rw [Int.natCast_mul, hpc]; exact this
              have hpre : ∀ j : Nat, gi (expS n (cfgL n k) ((ints n).map (ballG n es)) x.1 (gi x.2 x.1) x.2 ((gi ((cfgL n k).map (mvL n es (cfgL n k))) (gi x.2 x.1).1).take j)) (x.1 : Int) = gi x.2 x.1 := fun j => by obtain ⟨r, hr⟩ := (hEF j).2; rw [hr, gi_app (by omega)]
              have hwc : ∀ j : Nat, (j : Int) < (gi ((cfgL n k).map (mvL n es (cfgL n k))) (gi x.2 x.1).1).length → IntKind.wrap .i64 (gi (gi ((cfgL n k).map (mvL n es (cfgL n k))) (gi x.2 x.1).1) j * 2 ^ min (n : Int).toNat (IntKind.bits .i64)) + numL (nextL ((ints n).map (ballG n es)) (gi (expS n (cfgL n k) ((ints n).map (ballG n es)) x.1 (gi x.2 x.1) x.2 ((gi ((cfgL n k).map (mvL n es (cfgL n k))) (gi x.2 x.1).1).take j)) x.1).2.1 (gi (cfgL n k) (gi (gi ((cfgL n k).map (mvL n es (cfgL n k))) (gi x.2 x.1).1) j))) = codeS n ((gi (gi ((cfgL n k).map (mvL n es (cfgL n k))) (gi x.2 x.1).1) j, nextL ((ints n).map (ballG n es)) (gi x.2 x.1).2.1 (gi (cfgL n k) (gi (gi ((cfgL n k).map (mvL n es (cfgL n k))) (gi x.2 x.1).1) j)), (x.1 : Int)) : Stt) := fun j hj => by have hmb := hmlb _ (gi_mem (i := j) hj); rw [hpre j, shlC (by omega) hn8]; rfl
              refine J_loop (X := Nat) (fun j => ⟨[(2, .box 2 0), (6, .box 6 0), (7, .own 19 []), (8, .own 26 []), (11, I (x.1 : Nat)), (12, L (gi ((cfgL n k).map (mvL n es (cfgL n k))) (gi x.2 x.1).1)), (13, I (j : Nat))], [(2, .box 30 [I (n : Int), LP es]), (6, .box 74 [LL (cfgL n k), LL ((cfgL n k).map (mvL n es (cfgL n k))), LL ((ints n).map (ballG n es))]), (19, Ow 105 3 cS (expS n (cfgL n k) ((ints n).map (ballG n es)) x.1 (gi x.2 x.1) x.2 ((gi ((cfgL n k).map (mvL n es (cfgL n k))) (gi x.2 x.1).1).take j))), (26, Ow 4 1 cB (seenT ((cfgL n k).length * 2 ^ n) n (expS n (cfgL n k) ((ints n).map (ballG n es)) x.1 (gi x.2 x.1) x.2 ((gi ((cfgL n k).map (mvL n es (cfgL n k))) (gi x.2 x.1).1).take j))))]⟩) (fun j => j ≤ (gi ((cfgL n k).map (mvL n es (cfgL n k))) (gi x.2 x.1).1).length) (fun j => (gi ((cfgL n k).map (mvL n es (cfgL n k))) (gi x.2 x.1).1).length - j) 0 ?_ ?_ ?_
              · omega
              ·
                refine Le_sub C _ _ ⟨rfl, ⟨rfl, ⟨rfl, ⟨rfl, ⟨rfl, ⟨rfl, ⟨rfl, trivial⟩⟩⟩⟩⟩⟩⟩ ⟨rfl, ⟨rfl, ⟨rfl, ⟨rfl, trivial⟩⟩⟩⟩ rfl rfl
              ·
                intro j hj
                refine J_seq ?_
                refine J_seq ?_
                refine J_region ?_
                refine jl rfl rfl (ltn hn rfl) (pure_move rfl rfl) ?_
                refine jl rfl rfl (ltn hn rfl) (pure_move rfl rfl) ?_
                refine jl rfl rfl (ltn hn rfl) (p_len_m rfl rfl) ?_
                refine jl rfl rfl (ltn hn rfl) (pure_lss rfl rfl rfl) ?_
                refine JL_nil ?_
                refine J_cond_p rfl (fun h4 => ?_) (fun h4 => ?_)
                ·
                  refine J_skip ?_
                  refine J_seq ?_
                  refine J_block ?_
                  refine J_seq ?_
                  refine J_mixed [104] follows_mixed (by kernel_rfl) ?_
                  refine JD1_read 0 rfl (by kernel_rfl) (by kernel_rfl) (by kernel_rfl) rfl rfl (ltn hn rfl) (p_fld_b rfl rfl rfl) rfl ?_
                  refine JD1_read 1 rfl (by kernel_rfl) (by kernel_rfl) (by kernel_rfl) rfl rfl (ltn hn rfl) (p_ld_b rfl rfl rfl rfl) rfl ?_
                  refine JD1_read 2 rfl (by kernel_rfl) (by kernel_rfl) (by kernel_rfl) rfl rfl (ltn hn rfl) (pure_move rfl rfl) rfl ?_
                  refine JD1_read 3 rfl (by kernel_rfl) (by kernel_rfl) (by kernel_rfl) rfl rfl (ltn hn rfl) (pure_move rfl rfl) rfl ?_
                  refine JD1_read 4 rfl (by kernel_rfl) (by kernel_rfl) (by kernel_rfl) rfl rfl (ltn hn rfl) (p_idx_own_m rfl rfl rfl rfl (by obtain ⟨r, hr⟩ := (hEF j).2; (try rw [hr, List.length_append]); omega) (by obtain ⟨r, hr⟩ := (hEF j).2; (try rw [hr, List.length_append]); omega)) rfl ?_
                  refine JD1_read 5 rfl (by kernel_rfl) (by kernel_rfl) (by kernel_rfl) rfl rfl (ltn hn rfl) (p_fld_o rfl rfl rfl) rfl ?_
                  refine JD1_read 6 rfl (by kernel_rfl) (by kernel_rfl) (by kernel_rfl) rfl rfl (ltn hn rfl) (p_ld_o rfl rfl rfl rfl (mget (by obtain ⟨r, hr⟩ := (hEF j).2; (try rw [hr, List.length_append]); omega)) rfl) rfl ?_
                  refine JD1_read 7 rfl (by kernel_rfl) (by kernel_rfl) (by kernel_rfl) rfl rfl (ltn hn rfl) (p_fld_b rfl rfl rfl) rfl ?_
                  refine JD1_read 8 rfl (by kernel_rfl) (by kernel_rfl) (by kernel_rfl) rfl rfl (ltn hn rfl) (p_ld_b rfl rfl rfl rfl) rfl ?_
                  refine JD1_read 9 rfl (by kernel_rfl) (by kernel_rfl) (by kernel_rfl) rfl rfl (ltn hn rfl) (pure_move rfl rfl) rfl ?_
                  refine JD1_read 10 rfl (by kernel_rfl) (by kernel_rfl) (by kernel_rfl) rfl rfl (ltn hn rfl) (pure_move rfl rfl) rfl ?_
                  refine JD1_read 11 rfl (by kernel_rfl) (by kernel_rfl) (by kernel_rfl) rfl rfl (ltn hn rfl) (p_idx rfl rfl rfl (by omega) (mget (by omega))) rfl ?_
                  refine JD1_read 12 rfl (by kernel_rfl) (by kernel_rfl) (by kernel_rfl) rfl rfl (ltn hn rfl) (p_ld rfl rfl rfl) rfl ?_
                  refine JD1_read 13 rfl (by kernel_rfl) (by kernel_rfl) (by kernel_rfl) rfl rfl (ltn hn rfl) (p_idx rfl rfl rfl (by have hmb := hmlb _ (gi_mem (i := j) (by omega)); omega) (mget (by have hmb := hmlb _ (gi_mem (i := j) (by omega)); omega))) rfl ?_
                  refine JD1_read 14 rfl (by kernel_rfl) (by kernel_rfl) (by kernel_rfl) rfl rfl (ltn hn rfl) (p_ld rfl rfl rfl) rfl ?_
                  refine JD1_go ?_
                  refine JD_only 15 rfl (by kernel_rfl) rfl (@op_call _ _ _ _ _ _ [.tmp 90, .tmp 95, .tmp 103] _ _ _ _ _ (Next_spec _ _ _ (by rw [hpre j]; have := okU_len hst.u; omega) (by have hmb := hmlb _ (gi_mem (i := j) (by omega)); have := (hcm _ (gi_memI (l := cfgL n k) (x := gi (gi ((cfgL n k).map (mvL n es (cfgL n k))) (gi x.2 x.1).1) j) (by omega))).1; omega) (by rw [hpre j]; intro y hy; have := hst.u.2 y hy; rw [List.length_map, ints_length]; omega) (by intro b hb; obtain ⟨y, hy, rfl⟩ := List.mem_map.1 hb; have := ball_len hn8 es y; omega)) rfl Tryz.func91 rfl rfl rfl (ltn hn rfl) ⟨rfl, rfl, ⟨rfl, rfl, ⟨rfl, rfl, trivial⟩⟩⟩ rfl rfl) rfl ?_
                  refine JD_still 16 rfl (by kernel_rfl) (by kernel_rfl) (by kernel_rfl) rfl rfl (ltn hn rfl) (pure_assign rfl rfl) ?_
                  refine JD_done (by kernel_rfl) ?_
                  refine J_seq ?_
                  refine J_draw follows_mixed (by kernel_rfl) ?_
                  refine jq rfl rfl (ltn hn rfl) (pure_move rfl rfl) ?_
                  refine jq rfl rfl (ltn hn rfl) (pure_move rfl rfl) ?_
                  refine jq rfl rfl (ltn hn rfl) (p_idx rfl rfl rfl (by omega) (mget (by omega))) ?_
                  refine jq rfl rfl (ltn hn rfl) (p_ld rfl rfl rfl) ?_
                  refine jq rfl rfl (ltn hn rfl) (p_fld_b rfl rfl rfl) ?_
                  refine jq rfl rfl (ltn hn rfl) (p_ld_b rfl rfl rfl rfl) ?_
                  refine jq rfl rfl (ltn hn rfl) (p_shl rfl rfl rfl (by omega)) ?_
                  refine jq rfl rfl (ltn hn rfl) (pure_move rfl rfl) ?_
                  refine JQ_call (args := [.tmp 112]) rfl (Number_spec _ (by rw [hpre j]; have := okU_len (next_ok (es := es) (c := gi (cfgL n k) (gi (gi ((cfgL n k).map (mvL n es (cfgL n k))) (gi x.2 x.1).1) j)) hst.u); omega) (by rw [hpre j]; intro y hy; have := (next_ok (es := es) hst.u).2 y hy; omega)) rfl Tryz.func106 rfl rfl rfl (ltn hn rfl) ⟨rfl, rfl, trivial⟩ ?_
                  refine jq rfl rfl (ltn hn rfl) (pure_add rfl rfl rfl (by have hq := hcj j h4; rw [hwc j h4]; omega)) ?_
                  refine jq rfl rfl (ltn hn rfl) (pure_assign rfl rfl) ?_
                  refine JQ_nil ?_
                  refine J_seq ?_
                  refine J_region ?_
                  refine jl rfl rfl (ltn hn rfl) (pure_move rfl rfl) ?_
                  refine jl rfl rfl (ltn hn rfl) (pure_move rfl rfl) ?_
                  refine jl rfl rfl (ltn hn rfl) (p_idx_own_m rfl rfl rfl rfl (by have hq := hcj j h4; rw [hwc j h4]; (try rw [seenT_len]); omega) (by have hq := hcj j h4; rw [hwc j h4]; (try rw [seenT_len]); omega)) ?_
                  refine jl rfl rfl (ltn hn rfl) (p_ld_o rfl rfl rfl rfl (mget (by have hq := hcj j h4; rw [hwc j h4]; (try rw [seenT_len]); omega)) rfl) ?_
                  refine jl rfl rfl (ltn hn rfl) (pure_not_b rfl rfl) ?_
                  refine JL_nil ?_
                  refine J_cond rfl (fun h5 => ?_) (fun h5 => ?_)
                  ·
                    refine J_seq ?_
                    refine J_region ?_
                    refine jl rfl rfl (ltn hn rfl) (pure_move rfl rfl) ?_
                    refine jl rfl rfl (ltn hn rfl) (pure_move rfl rfl) ?_
                    refine jl rfl rfl (ltn hn rfl) (p_idx_own_m rfl rfl rfl rfl (by have hq := hcj j h4; rw [hwc j h4]; (try rw [seenT_len]); omega) (by have hq := hcj j h4; rw [hwc j h4]; (try rw [seenT_len]); omega)) ?_
                    refine jl_o rfl (@op_store_row_m _ _ _ _ _ cB _ _ _ _ _ _ _ _ _ SzT.out rfl rfl rfl rfl rfl rfl rfl rfl (fun _ => rfl) (by have hq := hcj j h4; rw [hwc j h4, seenT_len]; omega)) ?_
                    refine JL_nil ?_
                    refine J_region ?_
                    refine jl rfl rfl (ltn hn rfl) (pure_move rfl rfl) ?_
                    refine jl rfl rfl (ltn hn rfl) (pure_move rfl rfl) ?_
                    refine jl rfl rfl (ltn hn rfl) (pure_move rfl rfl) ?_
                    refine jl rfl rfl (ltn hn rfl) (p_idx rfl rfl rfl (by omega) (mget (by omega))) ?_
                    refine jl rfl rfl (ltn hn rfl) (p_ld rfl rfl rfl) ?_
                    refine jl rfl rfl (ltn hn rfl) (pure_move rfl rfl) ?_
                    refine jl rfl rfl (ltn hn rfl) (pure_move rfl rfl) ?_
                    refine jl rfl rfl (ltn hn rfl) (pure_build (l := [(0, .tmp 127), (1, .tmp 128), (2, .tmp 129)]) rfl BdT.out (.one rfl rfl (.one rfl rfl (.one rfl rfl .nil))) rfl) ?_
                    refine jl_o rfl (@op_lit1_agg _ _ _ _ _ cS (_, _, _) _ _ _ _ _ _ _ SlT.slk rfl rfl (ltn hn rfl) rfl rfl rfl rfl (Nat.le_of_ble_eq_true rfl) rfl rfl) ?_
                    refine jl_o rfl (op_append_m SlT.slk rfl rfl (ltn hn rfl) rfl rfl (src_own_m rfl rfl) (by have hq := (hEF j).1.len; simp only [List.length_cons, List.length_nil]; omega) (by have hq := (hEF j).1.len; simp only [List.length_cons, List.length_nil]; omega)) ?_
                    refine jl rfl rfl (ltn hn rfl) (pure_assign rfl rfl) ?_
                    refine JL_nil ?_
                    refine J_region ?_
                    refine jl rfl rfl (ltn hn rfl) (pure_move rfl rfl) ?_
                    refine jl rfl rfl (ltn hn rfl) (pure_add rfl rfl rfl (by omega)) ?_
                    refine jl rfl rfl (ltn hn rfl) (pure_assign rfl rfl) ?_
                    refine JL_nil ?_
                    have hxs : (expS n (cfgL n k) ((ints n).map (ballG n es)) x.1 (gi x.2 x.1) x.2 ((gi ((cfgL n k).map (mvL n es (cfgL n k))) (gi x.2 x.1).1).take (j + 1))) = (expS n (cfgL n k) ((ints n).map (ballG n es)) x.1 (gi x.2 x.1) x.2 ((gi ((cfgL n k).map (mvL n es (cfgL n k))) (gi x.2 x.1).1).take j)) ++ [((gi (gi ((cfgL n k).map (mvL n es (cfgL n k))) (gi x.2 x.1).1) j, nextL ((ints n).map (ballG n es)) (gi x.2 x.1).2.1 (gi (cfgL n k) (gi (gi ((cfgL n k).map (mvL n es (cfgL n k))) (gi x.2 x.1).1) j)), (x.1 : Int)) : Stt)] := by rw [exp_step h4, addS, if_neg]; rw [hwc j h4, seenT_get (hcj j h4)] at h5; simpa using h5
                    refine ⟨j + 1, ?_, ?_, ?_⟩
                    · omega
                    · omega
                    ·
                      refine Le_sub C _ _ ⟨rfl, ⟨rfl, ⟨rfl, ⟨rfl, ⟨rfl, ⟨rfl, ⟨(eqv rfl (vi (by omega))), trivial⟩⟩⟩⟩⟩⟩⟩ ⟨rfl, ⟨rfl, ⟨(eqv rfl (by show Ow 105 3 cS ((expS n (cfgL n k) ((ints n).map (ballG n es)) x.1 (gi x.2 x.1) x.2 ((gi ((cfgL n k).map (mvL n es (cfgL n k))) (gi x.2 x.1).1).take j)) ++ [(gi (gi ((cfgL n k).map (mvL n es (cfgL n k))) (gi x.2 x.1).1) j, nextL ((ints n).map (ballG n es)) (gi (expS n (cfgL n k) ((ints n).map (ballG n es)) x.1 (gi x.2 x.1) x.2 ((gi ((cfgL n k).map (mvL n es (cfgL n k))) (gi x.2 x.1).1).take j)) x.1).2.1 (gi (cfgL n k) (gi (gi ((cfgL n k).map (mvL n es (cfgL n k))) (gi x.2 x.1).1) j)), (x.1 : Int))]) = _; rw [hpre j, hxs])), ⟨(eqv rfl (by rw [hxs]; exact seen_full (hwc j h4) (hcj j h4))), trivial⟩⟩⟩⟩ rfl rfl
                  ·
                    refine J_skip ?_
                    refine J_region ?_
                    refine jl rfl rfl (ltn hn rfl) (pure_move rfl rfl) ?_
                    refine jl rfl rfl (ltn hn rfl) (pure_add rfl rfl rfl (by omega)) ?_
                    refine jl rfl rfl (ltn hn rfl) (pure_assign rfl rfl) ?_
                    refine JL_nil ?_
                    have hxs : (expS n (cfgL n k) ((ints n).map (ballG n es)) x.1 (gi x.2 x.1) x.2 ((gi ((cfgL n k).map (mvL n es (cfgL n k))) (gi x.2 x.1).1).take (j + 1))) = (expS n (cfgL n k) ((ints n).map (ballG n es)) x.1 (gi x.2 x.1) x.2 ((gi ((cfgL n k).map (mvL n es (cfgL n k))) (gi x.2 x.1).1).take j)) := by rw [exp_step h4, addS, if_pos]; rw [hwc j h4, seenT_get (hcj j h4)] at h5; simpa using h5
                    refine ⟨j + 1, ?_, ?_, ?_⟩
                    · omega
                    · omega
                    ·
                      refine Le_sub C _ _ ⟨rfl, ⟨rfl, ⟨rfl, ⟨rfl, ⟨rfl, ⟨rfl, ⟨(eqv rfl (vi (by omega))), trivial⟩⟩⟩⟩⟩⟩⟩ ⟨rfl, ⟨rfl, ⟨(eqv rfl (by rw [hxs])), ⟨(eqv rfl (by rw [hxs])), trivial⟩⟩⟩⟩ rfl rfl
                ·
                  refine J_exit ?_
                  refine J_region ?_
                  refine jl rfl rfl (ltn hn rfl) (pure_move rfl rfl) ?_
                  refine jl rfl rfl (ltn hn rfl) (pure_add rfl rfl rfl (by have := hx2.len; omega)) ?_
                  refine jl rfl rfl (ltn hn rfl) (pure_assign rfl rfl) ?_
                  refine JL_nil ?_
                  have hlen := hx2.len
                  have hje : (gi ((cfgL n k).map (mvL n es (cfgL n k))) (gi x.2 x.1).1).take j = (gi ((cfgL n k).map (mvL n es (cfgL n k))) (gi x.2 x.1).1) := take_all (l := (gi ((cfgL n k).map (mvL n es (cfgL n k))) (gi x.2 x.1).1)) (i := j) (by omega)
                  refine ⟨(x.1 + 1, (expS n (cfgL n k) ((ints n).map (ballG n es)) x.1 (gi x.2 x.1) x.2 (gi ((cfgL n k).map (mvL n es (cfgL n k))) (gi x.2 x.1).1))), ?_, ?_, ?_⟩
                  · exact ⟨by obtain ⟨r, hr⟩ := (hEF j).2; rw [hje] at hr; show x.1 + 1 ≤ List.length _; rw [hr, List.length_append]; omega, by have := (hEF j).1; rw [hje] at this; exact this, by rw [← hx3]; obtain ⟨f, hf⟩ : ∃ f, ((cfgL n k).length * 2 ^ n) + 1 - x.1 = f + 1 := ⟨((cfgL n k).length * 2 ^ n) - x.1, by omega⟩; have hf2 : ((cfgL n k).length * 2 ^ n) + 1 - (x.1 + 1) = f := (by omega); show bfsS n _ _ _ (((cfgL n k).length * 2 ^ n) + 1 - (x.1 + 1)) _ (x.1 + 1) = _; rw [hf, hf2]; simp only [bfsS]; rw [if_pos (by omega), if_neg (by omega)]⟩
                  · show ((cfgL n k).length * 2 ^ n) + 1 - (x.1 + 1) < ((cfgL n k).length * 2 ^ n) + 1 - x.1; omega
                  ·
                    refine Le_sub C _ _ ⟨rfl, ⟨rfl, ⟨rfl, ⟨rfl, ⟨(eqv rfl (vi (by simp))), trivial⟩⟩⟩⟩⟩ ⟨rfl, ⟨rfl, ⟨(eqv rfl (by rw [hje])), ⟨(eqv rfl (by rw [hje])), trivial⟩⟩⟩⟩ rfl rfl
          ·
            refine J_exit ?_
            refine J_seq ?_
            refine J_region ?_
            refine jl_o rfl (@op_lit0 _ _ _ _ _ cL _ _ _ _ _ SlT.slk rfl rfl (ltn hn rfl) rfl) ?_
            refine jl rfl rfl (ltn hn rfl) (pure_assign rfl rfl) ?_
            refine jl rfl rfl (ltn hn rfl) (pure_assign rfl rfl) ?_
            refine JL_nil ?_
            refine J_ret ?_
            have hlen := hx2.len
            have hw := walk_miss (es := es) (hx3.symm.trans (by obtain ⟨f, hf⟩ : ∃ f, ((cfgL n k).length * 2 ^ n) + 1 - x.1 = f + 1 := ⟨((cfgL n k).length * 2 ^ n) - x.1, by omega⟩; rw [hf]; simp only [bfsS]; rw [if_neg (by omega)]))
            exact Fin_two rfl (Le.trans (Le_frz 133 rfl rfl) (Le_sub C _ _ ⟨(eqv rfl (congrArg LL (by rw [hw]))), (eqv rfl (vb (by rw [hw]))), trivial⟩ trivial rfl rfl)) rfl
end Go.Proofs.YtmiijpobhajfmaaGreat.J
namespace Go.Proofs.YtmiijpobhajfmaaGreat.J
open Go Go.RowKit
set_option linter.unusedVariables false
set_option linter.unusedSimpArgs false

def clearS (n : Int) (es : List (Int × Int)) (k : Int) : List (List Int) × Bool := if fieldG n es k = true then (if (walkS n.toNat k.toNat es).2 = true ∧ (walkS n.toNat k.toNat es).1.length ≤ 40 then ((walkS n.toNat k.toNat es).1, true) else ([], false)) else ([], false)
def blindS (n : Int) (es : List (Int × Int)) : Int × Bool := if fieldG n es 1 = true then (if (clearS n es 1).2 = true then (1, true) else if (clearS n es 2).2 = true then (2, true) else if (clearS n es 3).2 = true then (3, true) else (0, false)) else (0, false)
theorem field_bd {n : Int} {es : List (Int × Int)} {k : Int} (h : fieldG n es k = true) : 0 < n ∧ n ≤ 8 ∧ 1 ≤ k ∧ k ≤ 3 := by
  simp only [fieldG, goodG, Bool.and_eq_true, decide_eq_true_eq] at h
  omega

theorem Clearing_spec (n : Int) (es : List (Int × Int)) (k : Int) (hl : es.length < 2^40) : Spec Tryz.prog 29 [Gr n es, I k] (.tup [LL (clearS n es k).1, B (clearS n es k).2]) [] := by
  refine Spec.intro (c := _) Tryz.func29 rfl (Nat.le_of_ble_eq_true rfl) (fun C hC hfx => ?_)
  have hn : C.n = 28 := hC
  refine (show J _ _ _ _ (⟨[(0, Gr n es), (1, I k)], []⟩ : AS) from ?_)
  refine J_seq ?_
  refine J_region ?_
  refine jl_o rfl (op_box_agg rfl rfl (ltn hn rfl) rfl rfl rfl) ?_
  refine jl rfl rfl (ltn hn rfl) (pure_assign rfl rfl) ?_
  refine jl rfl rfl (ltn hn rfl) (pure_assign rfl rfl) ?_
  refine JL_nil ?_
  refine J_seq ?_
  refine J_seq ?_
  refine J_region ?_
  refine jl rfl rfl (ltn hn rfl) (p_ld_ba rfl rfl rfl (Nat.le_of_ble_eq_true rfl) rfl) ?_
  refine jl rfl rfl (ltn hn rfl) (pure_move rfl rfl) ?_
  refine jl_o rfl (@op_call _ _ _ _ _ _ [.tmp 8, .tmp 9] _ _ _ _ _ (Field_spec _ _ _ (by omega)) rfl Tryz.func62 rfl rfl rfl (ltn hn rfl) ⟨rfl, rfl, ⟨rfl, rfl, trivial⟩⟩ rfl rfl) ?_
  refine jl rfl rfl (ltn hn rfl) (pure_not_b rfl rfl) ?_
  refine JL_nil ?_
  refine J_cond rfl (fun h1 => ?_) (fun h1 => ?_)
  ·
    refine J_seq ?_
    refine J_region ?_
    refine jl_o rfl (@op_lit0 _ _ _ _ _ cL _ _ _ _ _ SlT.slk rfl rfl (ltn hn rfl) rfl) ?_
    refine jl rfl rfl (ltn hn rfl) (pure_assign rfl rfl) ?_
    refine jl rfl rfl (ltn hn rfl) (pure_assign rfl rfl) ?_
    refine JL_nil ?_
    refine J_ret ?_
    exact Fin_two rfl (Le.trans (Le_frz 12 rfl rfl) (Le_sub C _ _ ⟨(eqv rfl (congrArg LL (by unfold clearS; rw [if_neg (by simpa using h1)]))), (eqv rfl (vb (by unfold clearS; rw [if_neg (by simpa using h1)]))), trivial⟩ trivial rfl rfl)) rfl
  ·
    obtain ⟨n0, rfl⟩ : ∃ n0 : Nat, n = n0 := ⟨n.toNat, by have := field_bd (n := n) (es := es) (k := k) (by simpa using h1); omega⟩
    obtain ⟨k0, rfl⟩ : ∃ k0 : Nat, k = k0 := ⟨k.toNat, by have := field_bd (n := n0) (es := es) (k := k) (by simpa using h1); omega⟩
    refine J_skip ?_
    refine J_seq ?_
    refine J_region ?_
    refine jl rfl rfl (ltn hn rfl) (p_ld_ba rfl rfl rfl (Nat.le_of_ble_eq_true rfl) rfl) ?_
    refine jl rfl rfl (ltn hn rfl) (pure_move rfl rfl) ?_
    refine jl_o rfl (@op_call _ _ _ _ _ _ [.tmp 14, .tmp 15] _ _ _ _ _ (Shortest_spec _ _ _ (by omega) (by have := field_bd (n := n0) (es := es) (k := k0) (by simpa using h1); omega) (by have := field_bd (n := n0) (es := es) (k := k0) (by simpa using h1); omega)) rfl Tryz.func63 rfl rfl rfl (ltn hn rfl) ⟨rfl, rfl, ⟨rfl, rfl, trivial⟩⟩ rfl rfl) ?_
    refine jl rfl rfl (ltn hn rfl) (pure_move rfl rfl) ?_
    refine jl rfl rfl (ltn hn rfl) (p_extract rfl rfl rfl) ?_
    refine jl rfl rfl (ltn hn rfl) (p_extract rfl rfl rfl) ?_
    refine jl rfl rfl (ltn hn rfl) (pure_assign rfl rfl) ?_
    refine jl rfl rfl (ltn hn rfl) (pure_assign rfl rfl) ?_
    refine JL_nil ?_
    refine J_seq ?_
    refine J_seq ?_
    refine J_region ?_
    refine jl rfl rfl (ltn hn rfl) (pure_move rfl rfl) ?_
    refine jl rfl rfl (ltn hn rfl) (pure_not_b rfl rfl) ?_
    refine jl rfl rfl (ltn hn rfl) (pure_move rfl rfl) ?_
    refine jl_split_b rfl rfl rfl (fun h2 => ?_) (fun h2 => ?_)
    ·
      refine jl_s rfl rfl (ltn hn rfl) ?_
      refine jl_s rfl rfl (ltn hn rfl) ?_
      refine jl_s rfl rfl (ltn hn rfl) ?_
      refine jl rfl rfl (ltn hn rfl) (pure_pick_t rfl rfl rfl) ?_
      refine JL_nil ?_
      refine J_cond_t rfl ?_
      refine J_seq ?_
      refine J_region ?_
      refine jl_o rfl (@op_lit0 _ _ _ _ _ cL _ _ _ _ _ SlT.slk rfl rfl (ltn hn rfl) rfl) ?_
      refine jl rfl rfl (ltn hn rfl) (pure_assign rfl rfl) ?_
      refine jl rfl rfl (ltn hn rfl) (pure_assign rfl rfl) ?_
      refine JL_nil ?_
      refine J_ret ?_
      first | (exact Fin_two rfl (Le.trans (Le_frz 26 rfl rfl) (Le_sub C _ _ ⟨(eqv rfl (congrArg LL (by unfold clearS; rw [if_pos (by simpa using h1), if_neg (by simp_all <;> omega)]))), (eqv rfl (vb (by unfold clearS; rw [if_pos (by simpa using h1), if_neg (by simp_all <;> omega)]))), trivial⟩ trivial rfl rfl)) rfl) | exact Fin_two rfl (Le_sub C _ _ ⟨(eqv rfl (congrArg LL (by unfold clearS; rw [if_pos (by simpa using h1), if_pos (by simp_all <;> omega)]; simp))), (eqv rfl (vb (by unfold clearS; rw [if_pos (by simpa using h1), if_pos (by simp_all <;> omega)]))), trivial⟩ trivial rfl rfl) rfl
    ·
      refine jl rfl rfl (ltn hn rfl) (pure_move rfl rfl) ?_
      refine jl rfl rfl (ltn hn rfl) (p_len_m rfl rfl) ?_
      refine jl rfl rfl (ltn hn rfl) (pure_gtr rfl rfl rfl) ?_
      refine jl rfl rfl (ltn hn rfl) (pure_pick_f rfl rfl rfl) ?_
      refine JL_nil ?_
      refine J_cond_p rfl (fun h3 => ?_) (fun h3 => ?_)
      ·
        refine J_seq ?_
        refine J_region ?_
        refine jl_o rfl (@op_lit0 _ _ _ _ _ cL _ _ _ _ _ SlT.slk rfl rfl (ltn hn rfl) rfl) ?_
        refine jl rfl rfl (ltn hn rfl) (pure_assign rfl rfl) ?_
        refine jl rfl rfl (ltn hn rfl) (pure_assign rfl rfl) ?_
        refine JL_nil ?_
        refine J_ret ?_
        first | (exact Fin_two rfl (Le.trans (Le_frz 26 rfl rfl) (Le_sub C _ _ ⟨(eqv rfl (congrArg LL (by unfold clearS; rw [if_pos (by simpa using h1), if_neg (by simp_all <;> omega)]))), (eqv rfl (vb (by unfold clearS; rw [if_pos (by simpa using h1), if_neg (by simp_all <;> omega)]))), trivial⟩ trivial rfl rfl)) rfl) | exact Fin_two rfl (Le_sub C _ _ ⟨(eqv rfl (congrArg LL (by unfold clearS; rw [if_pos (by simpa using h1), if_pos (by simp_all <;> omega)]; simp))), (eqv rfl (vb (by unfold clearS; rw [if_pos (by simpa using h1), if_pos (by simp_all <;> omega)]))), trivial⟩ trivial rfl rfl) rfl
      ·
        refine J_skip ?_
        refine J_seq ?_
        refine J_region ?_
        refine jl rfl rfl (ltn hn rfl) (pure_move rfl rfl) ?_
        refine jl rfl rfl (ltn hn rfl) (pure_assign rfl rfl) ?_
        refine jl rfl rfl (ltn hn rfl) (pure_assign rfl rfl) ?_
        refine JL_nil ?_
        refine J_ret ?_
        first | (exact Fin_two rfl (Le.trans (Le_frz 26 rfl rfl) (Le_sub C _ _ ⟨(eqv rfl (congrArg LL (by unfold clearS; rw [if_pos (by simpa using h1), if_neg (by simp_all <;> omega)]))), (eqv rfl (vb (by unfold clearS; rw [if_pos (by simpa using h1), if_neg (by simp_all <;> omega)]))), trivial⟩ trivial rfl rfl)) rfl) | exact Fin_two rfl (Le_sub C _ _ ⟨(eqv rfl (congrArg LL (by unfold clearS; rw [if_pos (by simpa using h1), if_pos (by simp_all <;> omega)]; simp))), (eqv rfl (vb (by unfold clearS; rw [if_pos (by simpa using h1), if_pos (by simp_all <;> omega)]))), trivial⟩ trivial rfl rfl) rfl
end Go.Proofs.YtmiijpobhajfmaaGreat.J
