/- Parts of a small logic over the program, and walks in it. No statement of the seat is proved in this text. -/
import Derived.Test.YtmiijpobhajfmaaGreatME
namespace Go.Proofs.YtmiijpobhajfmaaGreat.J
open Go Go.RowKit
set_option linter.unusedVariables false
set_option linter.unusedSimpArgs false

theorem gi_memI {α : Type} [Inhabited α] {l : List α} {x : Int} (h : x.toNat < l.length) : gi l x ∈ l := by
  simp only [gi, List.getD]
  rw [List.getElem?_eq_getElem h]
  exact List.getElem_mem _
theorem restL_mem {s c : List Int} {x : Int} (h : x ∈ restL s c) : x ∈ s := (List.mem_filter.1 h).1
/-- The order of lists. -/
def lessL : List Int → List Int → Bool
  | a :: r, b :: t => if a = b then lessL r t else decide (a < b)
  | _, _ => false
theorem lessL_take : ∀ (i : Nat) {a b : List Int}, a.take i = b.take i → i ≤ a.length → i ≤ b.length → lessL a b = lessL (a.drop i) (b.drop i)
  | 0, _, _, _, _, _ => rfl
  | i + 1, x :: a, y :: b, h, h1, h2 => by
    simp only [List.take_succ_cons, List.cons.injEq] at h
    simp only [List.drop_succ_cons, lessL, h.1, if_true]
    exact lessL_take i h.2 (by simpa using h1) (by simpa using h2)
  | i + 1, [], _, _, h1, _ => by simp at h1
  | i + 1, _ :: _, [], _, _, h2 => by simp at h2
def putLL (l : List (List Int)) (x : List Int) : List (List Int) := l.takeWhile (lessL · x) ++ (if (l.dropWhile (lessL · x)).head? = some x then [] else [x]) ++ l.dropWhile (lessL · x)
theorem span_atG {α : Type} [Inhabited α] {l : List α} {p : α → Bool} {i : Nat} (hi : i ≤ l.length) (hc : (l.take i).all p = true) (h : i < l.length → p (gi l i) = false) : l.takeWhile p = l.take i ∧ l.dropWhile p = l.drop i := by
  have hd : (l.drop i).takeWhile p = [] ∧ (l.drop i).dropWhile p = l.drop i := by
    by_cases e : i < l.length
    · rw [drop_gi e]
      simp [h e]
    · rw [List.drop_eq_nil_of_le (by omega)]
      simp
  have h1 : ∀ a ∈ l.take i, p a = true := List.all_eq_true.1 hc
  have e1 : l.takeWhile p = (l.take i ++ l.drop i).takeWhile p := by rw [List.take_append_drop]
  have e2 : l.dropWhile p = (l.take i ++ l.drop i).dropWhile p := by rw [List.take_append_drop]
  rw [List.takeWhile_append_of_pos h1, hd.1, List.append_nil] at e1
  rw [List.dropWhile_append_of_pos h1, hd.2] at e2
  exact ⟨e1, e2⟩
theorem all_stepG {α : Type} [Inhabited α] {l : List α} {p : α → Bool} {i : Nat} (h : (i : Int) < l.length) (hc : (l.take i).all p = true) (hn : p (gi l i) = true) : (l.take (i + 1)).all p = true := by
  rw [take_gi (by omega), List.all_append, hc]
  simp [hn]
theorem lessL_irr : ∀ a, lessL a a = false
  | [] => rfl
  | x :: a => by simp [lessL, lessL_irr a]
theorem putLL_same {l : List (List Int)} {x : List Int} {i : Nat} (hi : (i : Int) < l.length) (hc : (l.take i).all (lessL · x) = true) (h : gi l i = x) : l = putLL l x := by
  obtain ⟨e1, e2⟩ := span_atG (p := (lessL · x)) (by omega) hc (fun _ => by simp [h, lessL_irr])
  unfold putLL
  rw [e1, e2, drop_gi (by omega), h]
  simp only [List.head?_cons, if_true, List.append_nil]
  rw [← h, ← drop_gi (by omega), List.take_append_drop]
theorem putLL_new {l : List (List Int)} {x : List Int} {i : Nat} (hi : i ≤ l.length) (hc : (l.take i).all (lessL · x) = true) (h : (i : Int) < l.length → lessL (gi l i) x = false ∧ ¬ gi l i = x) : [] ++ (l.take (i : Int).toNat).drop (0 : Int).toNat ++ [x] ++ (l.take (l.length : Int).toNat).drop (i : Int).toNat = putLL l x := by
  obtain ⟨e1, e2⟩ := span_atG (p := (lessL · x)) hi hc (fun hl => (h (by omega)).1)
  unfold putLL
  rw [e1, e2]
  by_cases e : i < l.length
  · rw [drop_gi e]
    have h2 := (h (by omega)).2
    simp [h2, drop_gi e]
  · simp [List.drop_eq_nil_of_le (Nat.le_of_not_lt e)]
def insL (l : List Int) (x : Int) : List Int := l.takeWhile (· ≤ x) ++ [x] ++ l.dropWhile (· ≤ x)
def sortL (l : List Int) : List Int := l.foldl insL []
theorem ins_new {l : List Int} {x : Int} {i : Nat} (hi : i ≤ l.length) (hc : (l.take i).all (· ≤ x) = true) (h : (i : Int) < l.length → ¬ gi l i ≤ x) : [] ++ (l.take (i : Int).toNat).drop (0 : Int).toNat ++ [x] ++ (l.take (l.length : Int).toNat).drop (i : Int).toNat = insL l x := by
  obtain ⟨e1, e2⟩ := span_at (p := (· ≤ x)) hi hc (fun hl => by simpa using h (by omega))
  unfold insL
  rw [e1, e2]
  simp
theorem insL_len (l : List Int) (n : Int) : (insL l n).length = l.length + 1 := by
  have h := congrArg List.length (List.takeWhile_append_dropWhile (p := fun x : Int => decide (x ≤ n)) (l := l))
  simp only [List.length_append] at h
  unfold insL
  simp only [List.length_append, List.length_nil, List.length_cons]
  omega
theorem fold_ins_len (l : List Int) : ∀ s : List Int, (l.foldl insL s).length = s.length + l.length := by
  induction l with
  | nil => simp
  | cons a r ih =>
    intro s
    have h1 := ih (insL s a)
    have h2 := insL_len s a
    simp only [List.foldl_cons, List.length_cons]
    omega
def atL (l : List (List Int)) (x : List Int) : Int := match l.findIdx? (fun y => decide (y = x)) with | some i => (i : Int) | none => -1
theorem at_hit {l : List (List Int)} {x : List Int} {i : Nat} (h : (i : Int) < l.length) (hc : (l.take i).any (fun y => decide (y = x)) = false) (hn : gi l i = x) : (i : Int) = atL l x := by
  have : l.findIdx? (fun y => decide (y = x)) = some i := by
    rw [← List.take_append_drop i l, drop_gi (by omega), List.findIdx?_append]
    have h1 : (l.take i).findIdx? (fun y => decide (y = x)) = none := by
      rw [List.findIdx?_eq_none_iff]
      intro y hy
      have := List.any_eq_false.1 hc y hy
      simpa using this
    rw [h1]
    simp [List.findIdx?_cons, hn]
    omega
  unfold atL
  rw [this]
theorem at_miss {l : List (List Int)} {x : List Int} (hc : l.any (fun y => decide (y = x)) = false) : -1 = atL l x := by
  have h1 : l.findIdx? (fun y => decide (y = x)) = none := by
    rw [List.findIdx?_eq_none_iff]
    intro y hy
    have := List.any_eq_false.1 hc y hy
    simpa using this
  unfold atL
  rw [h1]

theorem Next_spec (balls : List (List Int)) (u c : List Int) (hu : u.length ≤ 100) (hc : c.length < 2^40) (hx : ∀ x ∈ u, 0 ≤ x ∧ x.toNat < balls.length) (hb : ∀ b ∈ balls, b.length ≤ 100) : Spec Tryz.prog 91 [LL balls, L u, L c] (L (nextL balls u c)) [] := by
  refine Spec.intro (c := _) Tryz.func91 rfl (Nat.le_of_ble_eq_true rfl) (fun C hC hfx => ?_)
  have hn : C.n = 44 := hC
  refine (show J _ _ _ _ (⟨[(0, LL balls), (1, L u), (2, L c)], []⟩ : AS) from ?_)
  have hr := filter_len u (fun x => !c.contains x)
  have hr2 : (restL u c).length ≤ 100 := Nat.le_trans hr hu
  refine J_seq ?_
  refine J_region ?_
  refine jl rfl rfl (ltn hn rfl) (pure_assign rfl rfl) ?_
  refine JL_nil ?_
  refine J_seq ?_
  refine J_region ?_
  refine jl rfl rfl (ltn hn rfl) (pure_move rfl rfl) ?_
  refine jl rfl rfl (ltn hn rfl) (pure_move rfl rfl) ?_
  refine jl_o rfl (@op_call _ _ _ _ _ _ [.tmp 12, .tmp 13] _ _ _ _ _ (Rest_spec _ _ (by omega) (by omega)) rfl Tryz.func89 rfl rfl rfl (ltn hn rfl) ⟨rfl, rfl, ⟨rfl, rfl, trivial⟩⟩ rfl rfl) ?_
  refine jl_o rfl (@op_lit0 _ _ _ _ _ cI _ _ _ _ _ SlT.slk rfl rfl (ltn hn rfl) rfl) ?_
  refine jl rfl rfl (ltn hn rfl) (pure_assign rfl rfl) ?_
  refine jl rfl rfl (ltn hn rfl) (pure_assign rfl rfl) ?_
  refine JL_nil ?_
  refine J_seq ?_
  refine J_seq ?_
  refine J_region ?_
  refine jl rfl rfl (ltn hn rfl) (pure_assign rfl rfl) ?_
  refine JL_nil ?_
  refine J_block ?_
  refine J_le (Le_frz 15 rfl rfl) ?_
  refine J_loop (X := Nat) (fun i => ⟨[(0, LL balls), (2, L c), (7, L (restL u c)), (8, L (((restL u c).take i).foldl (nextS balls c) [])), (9, I (i : Nat))], []⟩) (fun i => i ≤ (restL u c).length ∧ (((restL u c).take i).foldl (nextS balls c) []).length ≤ 100 * i) (fun i => (restL u c).length - i) 0 ?_ ?_ ?_
  · exact ⟨by simp, by simp⟩
  ·
    refine Le_sub C _ _ ⟨rfl, ⟨rfl, ⟨rfl, ⟨rfl, ⟨rfl, trivial⟩⟩⟩⟩⟩ trivial rfl rfl
  ·
    intro i hR
    obtain ⟨hi, hc2⟩ := hR
    refine J_seq ?_
    refine J_seq ?_
    refine J_region ?_
    refine jl rfl rfl (ltn hn rfl) (pure_move rfl rfl) ?_
    refine jl rfl rfl (ltn hn rfl) (pure_move rfl rfl) ?_
    refine jl rfl rfl (ltn hn rfl) (p_len_m rfl rfl) ?_
    refine jl rfl rfl (ltn hn rfl) (pure_lss rfl rfl rfl) ?_
    refine JL_nil ?_
    refine J_cond_p rfl (fun h1 => ?_) (fun h1 => ?_)
    ·
      refine J_skip ?_
      refine J_seq ?_
      refine J_block ?_
      refine J_seq ?_
      refine J_region ?_
      refine jl rfl rfl (ltn hn rfl) (pure_move rfl rfl) ?_
      refine jl rfl rfl (ltn hn rfl) (pure_move rfl rfl) ?_
      refine jl rfl rfl (ltn hn rfl) (pure_move rfl rfl) ?_
      refine jl rfl rfl (ltn hn rfl) (p_idx rfl rfl rfl (by omega) (mget (by omega))) ?_
      refine jl rfl rfl (ltn hn rfl) (p_ld rfl rfl rfl) ?_
      refine jl rfl rfl (ltn hn rfl) (p_idx rfl rfl rfl (by have hm := hx _ (restL_mem (gi_mem h1)); omega) (mget (by have hm := hx _ (restL_mem (gi_mem h1)); omega))) ?_
      refine jl rfl rfl (ltn hn rfl) (p_ld rfl rfl rfl) ?_
      refine jl rfl rfl (ltn hn rfl) (pure_move rfl rfl) ?_
      refine jl_o rfl (@op_call _ _ _ _ _ _ [.tmp 28, .tmp 29] _ _ _ _ _ (Rest_spec _ _ (by have hm := hx _ (restL_mem (gi_mem h1)); have := hb _ (gi_memI hm.2); omega) (by omega)) rfl Tryz.func89 rfl rfl rfl (ltn hn rfl) ⟨rfl, rfl, ⟨rfl, rfl, trivial⟩⟩ rfl rfl) ?_
      refine jl rfl rfl (ltn hn rfl) (pure_assign rfl rfl) ?_
      refine JL_nil ?_
      refine J_seq ?_
      refine J_region ?_
      refine jl rfl rfl (ltn hn rfl) (pure_assign rfl rfl) ?_
      refine JL_nil ?_
      refine J_block ?_
      have hm := hx _ (restL_mem (gi_mem h1))
      have hf := filter_len (gi balls (gi (restL u c) i)) (fun x => !c.contains x)
      have hf2 : (restL (gi balls (gi (restL u c) i)) c).length ≤ 100 := Nat.le_trans hf (hb _ (gi_memI hm.2))
      refine J_loop (X := Nat) (fun q => ⟨[(0, LL balls), (2, L c), (7, L (restL u c)), (9, I (i : Nat)), (10, L (restL (gi balls (gi (restL u c) i)) c)), (8, L (((restL (gi balls (gi (restL u c) i)) c).take q).foldl putL (((restL u c).take i).foldl (nextS balls c) []))), (11, I (q : Nat))], []⟩) (fun q => q ≤ (restL (gi balls (gi (restL u c) i)) c).length) (fun q => (restL (gi balls (gi (restL u c) i)) c).length - q) 0 ?_ ?_ ?_
      · omega
      ·
        refine Le_sub C _ _ ⟨rfl, ⟨rfl, ⟨rfl, ⟨rfl, ⟨rfl, ⟨rfl, ⟨rfl, trivial⟩⟩⟩⟩⟩⟩⟩ trivial rfl rfl
      ·
        intro q hq2
        refine J_seq ?_
        refine J_seq ?_
        refine J_region ?_
        refine jl rfl rfl (ltn hn rfl) (pure_move rfl rfl) ?_
        refine jl rfl rfl (ltn hn rfl) (pure_move rfl rfl) ?_
        refine jl rfl rfl (ltn hn rfl) (p_len_m rfl rfl) ?_
        refine jl rfl rfl (ltn hn rfl) (pure_lss rfl rfl rfl) ?_
        refine JL_nil ?_
        refine J_cond_p rfl (fun h2 => ?_) (fun h2 => ?_)
        ·
          refine J_skip ?_
          refine J_seq ?_
          refine J_block ?_
          refine J_region ?_
          refine jl rfl rfl (ltn hn rfl) (pure_move rfl rfl) ?_
          refine jl rfl rfl (ltn hn rfl) (pure_move rfl rfl) ?_
          refine jl rfl rfl (ltn hn rfl) (pure_move rfl rfl) ?_
          refine jl rfl rfl (ltn hn rfl) (p_idx rfl rfl rfl (by omega) (mget (by omega))) ?_
          refine jl rfl rfl (ltn hn rfl) (p_ld rfl rfl rfl) ?_
          refine jl_o rfl (@op_call _ _ _ _ _ _ [.tmp 37, .tmp 41] _ _ _ _ _ (Put_spec _ _ (by have hq := fold_put_len ((restL (gi balls (gi (restL u c) i)) c).take q) (((restL u c).take i).foldl (nextS balls c) []); rw [List.length_take] at hq; omega)) rfl Tryz.func102 rfl rfl rfl (ltn hn rfl) ⟨rfl, rfl, ⟨rfl, rfl, trivial⟩⟩ rfl rfl) ?_
          refine jl rfl rfl (ltn hn rfl) (pure_assign rfl rfl) ?_
          refine JL_nil ?_
          refine J_region ?_
          refine jl rfl rfl (ltn hn rfl) (pure_move rfl rfl) ?_
          refine jl rfl rfl (ltn hn rfl) (pure_add rfl rfl rfl (by omega)) ?_
          refine jl rfl rfl (ltn hn rfl) (pure_assign rfl rfl) ?_
          refine JL_nil ?_
          refine ⟨q + 1, ?_, ?_, ?_⟩
          · omega
          · omega
          ·
            refine Le_sub C _ _ ⟨rfl, ⟨rfl, ⟨rfl, ⟨rfl, ⟨rfl, ⟨(eqv rfl (congrArg L (by rw [take_gi (by omega), List.foldl_append]; rfl))), ⟨(eqv rfl (vi (by omega))), trivial⟩⟩⟩⟩⟩⟩⟩ trivial rfl rfl
        ·
          refine J_exit ?_
          refine J_region ?_
          refine jl rfl rfl (ltn hn rfl) (pure_move rfl rfl) ?_
          refine jl rfl rfl (ltn hn rfl) (pure_add rfl rfl rfl (by omega)) ?_
          refine jl rfl rfl (ltn hn rfl) (pure_assign rfl rfl) ?_
          refine JL_nil ?_
          have hs : ((restL u c).take (i + 1)).foldl (nextS balls c) [] = ((restL (gi balls (gi (restL u c) i)) c).take q).foldl putL (((restL u c).take i).foldl (nextS balls c) []) := by rw [take_gi (by omega), List.foldl_append, take_all h2]; rfl
          have hq := fold_put_len ((restL (gi balls (gi (restL u c) i)) c).take q) (((restL u c).take i).foldl (nextS balls c) [])
          refine ⟨i + 1, ?_, ?_, ?_⟩
          · exact ⟨by omega, by rw [hs]; rw [List.length_take] at hq; omega⟩
          · omega
          ·
            refine Le_sub C _ _ ⟨rfl, ⟨rfl, ⟨rfl, ⟨(eqv rfl (congrArg L hs.symm)), ⟨(eqv rfl (vi (by omega))), trivial⟩⟩⟩⟩⟩ trivial rfl rfl
    ·
      refine J_exit ?_
      refine J_seq ?_
      refine J_region ?_
      refine jl rfl rfl (ltn hn rfl) (pure_move rfl rfl) ?_
      refine jl rfl rfl (ltn hn rfl) (pure_assign rfl rfl) ?_
      refine JL_nil ?_
      refine J_ret ?_
      exact Fin_one rfl (Le_one rfl (congrArg L (by rw [take_all h1]; rfl)) rfl)
theorem Less_spec (a b : List Int) (ha : a.length < 2^40) (hb : b.length = a.length) : Spec Tryz.prog 140 [L a, L b] (B (lessL a b)) [] := by
  refine Spec.intro (c := _) Tryz.func140 rfl (Nat.le_of_ble_eq_true rfl) (fun C hC hfx => ?_)
  have hn : C.n = 30 := hC
  refine (show J _ _ _ _ (⟨[(0, L a), (1, L b)], []⟩ : AS) from ?_)
  refine J_seq ?_
  refine J_region ?_
  refine jl rfl rfl (ltn hn rfl) (pure_assign rfl rfl) ?_
  refine JL_nil ?_
  refine J_seq ?_
  refine J_seq ?_
  refine J_region ?_
  refine jl rfl rfl (ltn hn rfl) (pure_assign rfl rfl) ?_
  refine JL_nil ?_
  refine J_block ?_
  refine J_loop (X := Nat) (fun i => ⟨[(0, L a), (1, L b), (5, I (i : Nat))], []⟩) (fun i => i ≤ a.length ∧ a.take i = b.take i) (fun i => a.length - i) 0 ?_ ?_ ?_
  · exact ⟨by simp, by simp⟩
  ·
    refine Le_sub C _ _ ⟨rfl, ⟨rfl, ⟨rfl, trivial⟩⟩⟩ trivial rfl rfl
  ·
    intro i hR
    obtain ⟨hi, hc⟩ := hR
    refine J_seq ?_
    refine J_seq ?_
    refine J_region ?_
    refine jl rfl rfl (ltn hn rfl) (pure_move rfl rfl) ?_
    refine jl rfl rfl (ltn hn rfl) (pure_move rfl rfl) ?_
    refine jl rfl rfl (ltn hn rfl) (p_len_m rfl rfl) ?_
    refine jl rfl rfl (ltn hn rfl) (pure_lss rfl rfl rfl) ?_
    refine JL_nil ?_
    refine J_cond_p rfl (fun h1 => ?_) (fun h1 => ?_)
    ·
      refine J_skip ?_
      refine J_seq ?_
      refine J_block ?_
      refine J_seq ?_
      refine J_draw follows_mixed (by kernel_rfl) ?_
      refine jq rfl rfl (ltn hn rfl) (pure_move rfl rfl) ?_
      refine jq rfl rfl (ltn hn rfl) (pure_move rfl rfl) ?_
      refine jq rfl rfl (ltn hn rfl) (p_idx rfl rfl rfl (by omega) (mget (by omega))) ?_
      refine jq rfl rfl (ltn hn rfl) (p_ld rfl rfl rfl) ?_
      refine jq rfl rfl (ltn hn rfl) (pure_move rfl rfl) ?_
      refine jq rfl rfl (ltn hn rfl) (pure_move rfl rfl) ?_
      refine jq rfl rfl (ltn hn rfl) (p_idx rfl rfl rfl (by omega) (mget (by omega))) ?_
      refine jq rfl rfl (ltn hn rfl) (p_ld rfl rfl rfl) ?_
      refine jq rfl rfl (ltn hn rfl) (pure_neq rfl rfl rfl) ?_
      refine JQ_nil ?_
      refine J_cond_p rfl (fun h2 => ?_) (fun h2 => ?_)
      ·
        refine J_seq ?_
        refine J_draw follows_mixed (by kernel_rfl) ?_
        refine jq rfl rfl (ltn hn rfl) (pure_move rfl rfl) ?_
        refine jq rfl rfl (ltn hn rfl) (pure_move rfl rfl) ?_
        refine jq rfl rfl (ltn hn rfl) (p_idx rfl rfl rfl (by omega) (mget (by omega))) ?_
        refine jq rfl rfl (ltn hn rfl) (p_ld rfl rfl rfl) ?_
        refine jq rfl rfl (ltn hn rfl) (pure_move rfl rfl) ?_
        refine jq rfl rfl (ltn hn rfl) (pure_move rfl rfl) ?_
        refine jq rfl rfl (ltn hn rfl) (p_idx rfl rfl rfl (by omega) (mget (by omega))) ?_
        refine jq rfl rfl (ltn hn rfl) (p_ld rfl rfl rfl) ?_
        refine jq rfl rfl (ltn hn rfl) (pure_lss rfl rfl rfl) ?_
        refine jq rfl rfl (ltn hn rfl) (pure_assign rfl rfl) ?_
        refine JQ_nil ?_
        refine J_ret ?_
        exact Fin_one rfl (Le_one rfl (vb (by rw [lessL_take i hc (by omega) (by omega), drop_gi (l := a) (i := i) (by omega), drop_gi (l := b) (i := i) (by omega)]; simp only [lessL]; rw [if_neg h2])) rfl)
      ·
        refine J_skip ?_
        refine J_region ?_
        refine jl rfl rfl (ltn hn rfl) (pure_move rfl rfl) ?_
        refine jl rfl rfl (ltn hn rfl) (pure_add rfl rfl rfl (by omega)) ?_
        refine jl rfl rfl (ltn hn rfl) (pure_assign rfl rfl) ?_
        refine JL_nil ?_
        refine ⟨i + 1, ?_, ?_, ?_⟩
        · exact ⟨by omega, by rw [take_gi (by omega), take_gi (by omega), hc, Decidable.not_not.1 h2]⟩
        · omega
        ·
          refine Le_sub C _ _ ⟨rfl, ⟨rfl, ⟨(eqv rfl (vi (by omega))), trivial⟩⟩⟩ trivial rfl rfl
    ·
      refine J_exit ?_
      refine J_seq ?_
      refine J_region ?_
      refine jl rfl rfl (ltn hn rfl) (pure_assign rfl rfl) ?_
      refine JL_nil ?_
      refine J_ret ?_
      exact Fin_one rfl (Le_one rfl (vb (by rw [lessL_take i hc (by omega) (by omega), List.drop_eq_nil_of_le (by omega)]; rfl)) rfl)
theorem PutLL_spec (l : List (List Int)) (x : List Int) (hn : l.length < 2^40) (hx : x.length < 2^40) (hl : ∀ y ∈ l, y.length = x.length) : Spec Tryz.prog 126 [LL l, L x] (LL (putLL l x)) [] := by
  refine Spec.intro (c := _) Tryz.func126 rfl (Nat.le_of_ble_eq_true rfl) (fun C hC hfx => ?_)
  have hn : C.n = 45 := hC
  refine (show J _ _ _ _ (⟨[(0, LL l), (1, L x)], []⟩ : AS) from ?_)
  refine J_seq ?_
  refine J_region ?_
  refine jl rfl rfl (ltn hn rfl) (pure_assign rfl rfl) ?_
  refine JL_nil ?_
  refine J_seq ?_
  refine J_region ?_
  refine jl rfl rfl (ltn hn rfl) (pure_assign rfl rfl) ?_
  refine JL_nil ?_
  refine J_seq ?_
  refine J_block ?_
  refine J_loop (X := Nat) (fun i => ⟨[(0, LL l), (1, L x), (5, I (i : Nat))], []⟩) (fun i => i ≤ l.length ∧ (l.take i).all (lessL · x) = true) (fun i => l.length - i) 0 ?_ ?_ ?_
  · exact ⟨by simp, by simp⟩
  ·
    refine Le_sub C _ _ ⟨rfl, ⟨rfl, ⟨rfl, trivial⟩⟩⟩ trivial rfl rfl
  ·
    intro i hR
    obtain ⟨hi, hc⟩ := hR
    refine J_seq ?_
    refine J_seq ?_
    refine J_region ?_
    refine jl rfl rfl (ltn hn rfl) (pure_move rfl rfl) ?_
    refine jl rfl rfl (ltn hn rfl) (pure_move rfl rfl) ?_
    refine jl rfl rfl (ltn hn rfl) (p_len_m rfl rfl) ?_
    refine jl rfl rfl (ltn hn rfl) (pure_lss rfl rfl rfl) ?_
    refine jl rfl rfl (ltn hn rfl) (pure_move rfl rfl) ?_
    refine jl_split rfl rfl rfl (fun h1 => ?_) (fun h1 => ?_)
    ·
      refine jl rfl rfl (ltn hn rfl) (pure_move rfl rfl) ?_
      refine jl rfl rfl (ltn hn rfl) (pure_move rfl rfl) ?_
      refine jl rfl rfl (ltn hn rfl) (p_idx rfl rfl rfl (by omega) (mget (by omega))) ?_
      refine jl rfl rfl (ltn hn rfl) (p_ld rfl rfl rfl) ?_
      refine jl rfl rfl (ltn hn rfl) (pure_move rfl rfl) ?_
      refine jl_o rfl (@op_call _ _ _ _ _ _ [.tmp 14, .tmp 15] _ _ _ _ _ (Less_spec _ _ (by have := hl _ (gi_mem (l := l) (i := i) (by omega)); omega) (by have := hl _ (gi_mem (l := l) (i := i) (by omega)); omega)) rfl Tryz.func140 rfl rfl rfl (ltn hn rfl) ⟨rfl, rfl, ⟨rfl, rfl, trivial⟩⟩ rfl rfl) ?_
      refine jl rfl rfl (ltn hn rfl) (pure_pick_t rfl rfl rfl) ?_
      refine JL_nil ?_
      refine J_cond rfl (fun h2 => ?_) (fun h2 => ?_)
      ·
        refine J_skip ?_
        refine J_block ?_
        refine J_region ?_
        refine jl rfl rfl (ltn hn rfl) (pure_move rfl rfl) ?_
        refine jl rfl rfl (ltn hn rfl) (pure_add rfl rfl rfl (by omega)) ?_
        refine jl rfl rfl (ltn hn rfl) (pure_assign rfl rfl) ?_
        refine JL_nil ?_
        refine ⟨i + 1, ?_, ?_, ?_⟩
        · exact ⟨by omega, all_stepG h1 hc (by simpa using h2)⟩
        · omega
        ·
          refine Le_sub C _ _ ⟨rfl, ⟨rfl, ⟨(eqv rfl (vi (by omega))), trivial⟩⟩⟩ trivial rfl rfl
      ·
        refine J_exit ?_
        refine J_seq ?_
        refine J_seq ?_
        refine J_region ?_
        refine jl rfl rfl (ltn hn rfl) (pure_move rfl rfl) ?_
        refine jl rfl rfl (ltn hn rfl) (pure_move rfl rfl) ?_
        refine jl rfl rfl (ltn hn rfl) (p_len_m rfl rfl) ?_
        refine jl rfl rfl (ltn hn rfl) (pure_lss rfl rfl rfl) ?_
        refine jl rfl rfl (ltn hn rfl) (pure_move rfl rfl) ?_
        refine jl_split rfl rfl rfl (fun h3 => ?_) (fun h3 => ?_)
        ·
          refine jl rfl rfl (ltn hn rfl) (pure_move rfl rfl) ?_
          refine jl rfl rfl (ltn hn rfl) (pure_move rfl rfl) ?_
          refine jl rfl rfl (ltn hn rfl) (p_idx rfl rfl rfl (by omega) (mget (by omega))) ?_
          refine jl rfl rfl (ltn hn rfl) (p_ld rfl rfl rfl) ?_
          refine jl rfl rfl (ltn hn rfl) (pure_move rfl rfl) ?_
          refine jl_o rfl (@op_call _ _ _ _ _ _ [.tmp 28, .tmp 29] _ _ _ _ _ (Same_spec _ _ (by have := hl _ (gi_mem (l := l) (i := i) (by omega)); omega) (by omega)) rfl Tryz.func117 rfl rfl rfl (ltn hn rfl) ⟨rfl, rfl, ⟨rfl, rfl, trivial⟩⟩ rfl rfl) ?_
          refine jl rfl rfl (ltn hn rfl) (pure_pick_t rfl rfl rfl) ?_
          refine JL_nil ?_
          refine J_cond rfl (fun h4 => ?_) (fun h4 => ?_)
          ·
            refine J_seq ?_
            refine J_region ?_
            refine jl rfl rfl (ltn hn rfl) (pure_move rfl rfl) ?_
            refine jl rfl rfl (ltn hn rfl) (pure_assign rfl rfl) ?_
            refine JL_nil ?_
            refine J_ret ?_
            first | (exact Fin_one rfl (Le_one rfl (congrArg LL (putLL_same (by omega) hc (by simp_all))) rfl)) | (exact Fin_one rfl (Le.trans (Le_frz 33 rfl rfl) (Le_one rfl (congrArg LL (putLL_new hi hc (by intro hlt; simp_all))) rfl)))
          ·
            refine J_skip ?_
            refine J_seq ?_
            refine J_mixed [33, 39] follows_mixed (by kernel_rfl) ?_
            refine JD1_read 1 rfl (by kernel_rfl) (by kernel_rfl) (by kernel_rfl) rfl rfl (ltn hn rfl) (pure_move rfl rfl) rfl ?_
            refine JD1_read 2 rfl (by kernel_rfl) (by kernel_rfl) (by kernel_rfl) rfl rfl (ltn hn rfl) (pure_move rfl rfl) rfl ?_
            refine JD1_read 3 rfl (by kernel_rfl) (by kernel_rfl) (by kernel_rfl) rfl rfl (ltn hn rfl) (p_slice_m rfl rfl rfl rfl (by omega) (by omega) (by omega) rfl) rfl ?_
            refine JD1_read 5 rfl (by kernel_rfl) (by kernel_rfl) (by kernel_rfl) rfl rfl (ltn hn rfl) (pure_move rfl rfl) rfl ?_
            refine JD1_read 8 rfl (by kernel_rfl) (by kernel_rfl) (by kernel_rfl) rfl rfl (ltn hn rfl) (pure_move rfl rfl) rfl ?_
            refine JD1_read 9 rfl (by kernel_rfl) (by kernel_rfl) (by kernel_rfl) rfl rfl (ltn hn rfl) (pure_move rfl rfl) rfl ?_
            refine JD1_read 10 rfl (by kernel_rfl) (by kernel_rfl) (by kernel_rfl) rfl rfl (ltn hn rfl) (p_slice_m rfl rfl rfl rfl (by omega) (by omega) (by omega) rfl) rfl ?_
            refine JD1_go ?_
            refine JD_two 0 6 rfl rfl (by kernel_rfl) rfl rfl (@op_lit0 _ _ _ _ _ cL _ _ _ _ _ SlT.slk rfl rfl (ltn hn rfl) rfl) rfl (@op_lit1 _ _ _ _ _ cL _ _ _ _ _ _ _ SlT.slk rfl rfl (ltn hn rfl) rfl rfl rfl rfl rfl) rfl ?_ ?_
            ·
              refine JD_two 4 6 rfl rfl (by kernel_rfl) rfl rfl (op_append_m SlT.slk rfl rfl (ltn hn rfl) rfl rfl (src_sl_m rfl) (by first | omega | (simp only [List.length_append, List.length_cons, List.length_nil, List.length_take, List.length_drop]; omega)) (by first | omega | (simp only [List.length_append, List.length_cons, List.length_nil, List.length_take, List.length_drop]; omega))) rfl (@op_lit1 _ _ _ _ _ cL _ _ _ _ _ _ _ SlT.slk rfl rfl (ltn hn rfl) rfl rfl rfl rfl rfl) rfl ?_ ?_
              ·
                refine JD_only 6 rfl (by kernel_rfl) rfl (@op_lit1 _ _ _ _ _ cL _ _ _ _ _ _ _ SlT.slk rfl rfl (ltn hn rfl) rfl rfl rfl rfl rfl) rfl ?_
                refine JD_only 7 rfl (by kernel_rfl) rfl (op_append_m SlT.slk rfl rfl (ltn hn rfl) rfl rfl (src_own_m rfl rfl) (by first | omega | (simp only [List.length_append, List.length_cons, List.length_nil, List.length_take, List.length_drop]; omega)) (by first | omega | (simp only [List.length_append, List.length_cons, List.length_nil, List.length_take, List.length_drop]; omega))) rfl ?_
                refine JD_only 11 rfl (by kernel_rfl) rfl (op_append_m SlT.slk rfl rfl (ltn hn rfl) rfl rfl (src_sl_m rfl) (by first | omega | (simp only [List.length_append, List.length_cons, List.length_nil, List.length_take, List.length_drop]; omega)) (by first | omega | (simp only [List.length_append, List.length_cons, List.length_nil, List.length_take, List.length_drop]; omega))) rfl ?_
                refine JD_still 12 rfl (by kernel_rfl) (by kernel_rfl) (by kernel_rfl) rfl rfl (ltn hn rfl) (pure_assign rfl rfl) ?_
                refine JD_done (by kernel_rfl) ?_
                refine J_ret ?_
                first | (exact Fin_one rfl (Le_one rfl (congrArg LL (putLL_same (by omega) hc (by simp_all))) rfl)) | (exact Fin_one rfl (Le.trans (Le_frz 33 rfl rfl) (Le_one rfl (congrArg LL (putLL_new hi hc (by intro hlt; simp_all))) rfl)))
              ·
                refine JD_only 4 rfl (by kernel_rfl) rfl (op_append_m SlT.slk rfl rfl (ltn hn rfl) rfl rfl (src_sl_m rfl) (by first | omega | (simp only [List.length_append, List.length_cons, List.length_nil, List.length_take, List.length_drop]; omega)) (by first | omega | (simp only [List.length_append, List.length_cons, List.length_nil, List.length_take, List.length_drop]; omega))) rfl ?_
                refine JD_only 7 rfl (by kernel_rfl) rfl (op_append_m SlT.slk rfl rfl (ltn hn rfl) rfl rfl (src_own_m rfl rfl) (by first | omega | (simp only [List.length_append, List.length_cons, List.length_nil, List.length_take, List.length_drop]; omega)) (by first | omega | (simp only [List.length_append, List.length_cons, List.length_nil, List.length_take, List.length_drop]; omega))) rfl ?_
                refine JD_only 11 rfl (by kernel_rfl) rfl (op_append_m SlT.slk rfl rfl (ltn hn rfl) rfl rfl (src_sl_m rfl) (by first | omega | (simp only [List.length_append, List.length_cons, List.length_nil, List.length_take, List.length_drop]; omega)) (by first | omega | (simp only [List.length_append, List.length_cons, List.length_nil, List.length_take, List.length_drop]; omega))) rfl ?_
                refine JD_still 12 rfl (by kernel_rfl) (by kernel_rfl) (by kernel_rfl) rfl rfl (ltn hn rfl) (pure_assign rfl rfl) ?_
                refine JD_done (by kernel_rfl) ?_
                refine J_ret ?_
                first | (exact Fin_one rfl (Le_one rfl (congrArg LL (putLL_same (by omega) hc (by simp_all))) rfl)) | (exact Fin_one rfl (Le.trans (Le_frz 33 rfl rfl) (Le_one rfl (congrArg LL (putLL_new hi hc (by intro hlt; simp_all))) rfl)))
            ·
              refine JD_only 0 rfl (by kernel_rfl) rfl (@op_lit0 _ _ _ _ _ cL _ _ _ _ _ SlT.slk rfl rfl (ltn hn rfl) rfl) rfl ?_
              refine JD_only 4 rfl (by kernel_rfl) rfl (op_append_m SlT.slk rfl rfl (ltn hn rfl) rfl rfl (src_sl_m rfl) (by first | omega | (simp only [List.length_append, List.length_cons, List.length_nil, List.length_take, List.length_drop]; omega)) (by first | omega | (simp only [List.length_append, List.length_cons, List.length_nil, List.length_take, List.length_drop]; omega))) rfl ?_
              refine JD_only 7 rfl (by kernel_rfl) rfl (op_append_m SlT.slk rfl rfl (ltn hn rfl) rfl rfl (src_own_m rfl rfl) (by first | omega | (simp only [List.length_append, List.length_cons, List.length_nil, List.length_take, List.length_drop]; omega)) (by first | omega | (simp only [List.length_append, List.length_cons, List.length_nil, List.length_take, List.length_drop]; omega))) rfl ?_
              refine JD_only 11 rfl (by kernel_rfl) rfl (op_append_m SlT.slk rfl rfl (ltn hn rfl) rfl rfl (src_sl_m rfl) (by first | omega | (simp only [List.length_append, List.length_cons, List.length_nil, List.length_take, List.length_drop]; omega)) (by first | omega | (simp only [List.length_append, List.length_cons, List.length_nil, List.length_take, List.length_drop]; omega))) rfl ?_
              refine JD_still 12 rfl (by kernel_rfl) (by kernel_rfl) (by kernel_rfl) rfl rfl (ltn hn rfl) (pure_assign rfl rfl) ?_
              refine JD_done (by kernel_rfl) ?_
              refine J_ret ?_
              first | (exact Fin_one rfl (Le_one rfl (congrArg LL (putLL_same (by omega) hc (by simp_all))) rfl)) | (exact Fin_one rfl (Le.trans (Le_frz 33 rfl rfl) (Le_one rfl (congrArg LL (putLL_new hi hc (by intro hlt; simp_all))) rfl)))
        ·
          refine jl_s rfl rfl (ltn hn rfl) ?_
          refine jl_s rfl rfl (ltn hn rfl) ?_
          refine jl_s rfl rfl (ltn hn rfl) ?_
          refine jl_s rfl rfl (ltn hn rfl) ?_
          refine jl_s rfl rfl (ltn hn rfl) ?_
          refine jl_s rfl rfl (ltn hn rfl) ?_
          refine jl rfl rfl (ltn hn rfl) (pure_pick_f rfl rfl rfl) ?_
          refine JL_nil ?_
          refine J_cond_f rfl ?_
          refine J_skip ?_
          refine J_seq ?_
          refine J_mixed [33, 39] follows_mixed (by kernel_rfl) ?_
          refine JD1_read 1 rfl (by kernel_rfl) (by kernel_rfl) (by kernel_rfl) rfl rfl (ltn hn rfl) (pure_move rfl rfl) rfl ?_
          refine JD1_read 2 rfl (by kernel_rfl) (by kernel_rfl) (by kernel_rfl) rfl rfl (ltn hn rfl) (pure_move rfl rfl) rfl ?_
          refine JD1_read 3 rfl (by kernel_rfl) (by kernel_rfl) (by kernel_rfl) rfl rfl (ltn hn rfl) (p_slice_m rfl rfl rfl rfl (by omega) (by omega) (by omega) rfl) rfl ?_
          refine JD1_read 5 rfl (by kernel_rfl) (by kernel_rfl) (by kernel_rfl) rfl rfl (ltn hn rfl) (pure_move rfl rfl) rfl ?_
          refine JD1_read 8 rfl (by kernel_rfl) (by kernel_rfl) (by kernel_rfl) rfl rfl (ltn hn rfl) (pure_move rfl rfl) rfl ?_
          refine JD1_read 9 rfl (by kernel_rfl) (by kernel_rfl) (by kernel_rfl) rfl rfl (ltn hn rfl) (pure_move rfl rfl) rfl ?_
          refine JD1_read 10 rfl (by kernel_rfl) (by kernel_rfl) (by kernel_rfl) rfl rfl (ltn hn rfl) (p_slice_m rfl rfl rfl rfl (by omega) (by omega) (by omega) rfl) rfl ?_
          refine JD1_go ?_
          refine JD_two 0 6 rfl rfl (by kernel_rfl) rfl rfl (@op_lit0 _ _ _ _ _ cL _ _ _ _ _ SlT.slk rfl rfl (ltn hn rfl) rfl) rfl (@op_lit1 _ _ _ _ _ cL _ _ _ _ _ _ _ SlT.slk rfl rfl (ltn hn rfl) rfl rfl rfl rfl rfl) rfl ?_ ?_
          ·
            refine JD_two 4 6 rfl rfl (by kernel_rfl) rfl rfl (op_append_m SlT.slk rfl rfl (ltn hn rfl) rfl rfl (src_sl_m rfl) (by first | omega | (simp only [List.length_append, List.length_cons, List.length_nil, List.length_take, List.length_drop]; omega)) (by first | omega | (simp only [List.length_append, List.length_cons, List.length_nil, List.length_take, List.length_drop]; omega))) rfl (@op_lit1 _ _ _ _ _ cL _ _ _ _ _ _ _ SlT.slk rfl rfl (ltn hn rfl) rfl rfl rfl rfl rfl) rfl ?_ ?_
            ·
              refine JD_only 6 rfl (by kernel_rfl) rfl (@op_lit1 _ _ _ _ _ cL _ _ _ _ _ _ _ SlT.slk rfl rfl (ltn hn rfl) rfl rfl rfl rfl rfl) rfl ?_
              refine JD_only 7 rfl (by kernel_rfl) rfl (op_append_m SlT.slk rfl rfl (ltn hn rfl) rfl rfl (src_own_m rfl rfl) (by first | omega | (simp only [List.length_append, List.length_cons, List.length_nil, List.length_take, List.length_drop]; omega)) (by first | omega | (simp only [List.length_append, List.length_cons, List.length_nil, List.length_take, List.length_drop]; omega))) rfl ?_
              refine JD_only 11 rfl (by kernel_rfl) rfl (op_append_m SlT.slk rfl rfl (ltn hn rfl) rfl rfl (src_sl_m rfl) (by first | omega | (simp only [List.length_append, List.length_cons, List.length_nil, List.length_take, List.length_drop]; omega)) (by first | omega | (simp only [List.length_append, List.length_cons, List.length_nil, List.length_take, List.length_drop]; omega))) rfl ?_
              refine JD_still 12 rfl (by kernel_rfl) (by kernel_rfl) (by kernel_rfl) rfl rfl (ltn hn rfl) (pure_assign rfl rfl) ?_
              refine JD_done (by kernel_rfl) ?_
              refine J_ret ?_
              first | (exact Fin_one rfl (Le_one rfl (congrArg LL (putLL_same (by omega) hc (by simp_all))) rfl)) | (exact Fin_one rfl (Le.trans (Le_frz 33 rfl rfl) (Le_one rfl (congrArg LL (putLL_new hi hc (by intro hlt; simp_all))) rfl)))
            ·
              refine JD_only 4 rfl (by kernel_rfl) rfl (op_append_m SlT.slk rfl rfl (ltn hn rfl) rfl rfl (src_sl_m rfl) (by first | omega | (simp only [List.length_append, List.length_cons, List.length_nil, List.length_take, List.length_drop]; omega)) (by first | omega | (simp only [List.length_append, List.length_cons, List.length_nil, List.length_take, List.length_drop]; omega))) rfl ?_
              refine JD_only 7 rfl (by kernel_rfl) rfl (op_append_m SlT.slk rfl rfl (ltn hn rfl) rfl rfl (src_own_m rfl rfl) (by first | omega | (simp only [List.length_append, List.length_cons, List.length_nil, List.length_take, List.length_drop]; omega)) (by first | omega | (simp only [List.length_append, List.length_cons, List.length_nil, List.length_take, List.length_drop]; omega))) rfl ?_
              refine JD_only 11 rfl (by kernel_rfl) rfl (op_append_m SlT.slk rfl rfl (ltn hn rfl) rfl rfl (src_sl_m rfl) (by first | omega | (simp only [List.length_append, List.length_cons, List.length_nil, List.length_take, List.length_drop]; omega)) (by first | omega | (simp only [List.length_append, List.length_cons, List.length_nil, List.length_take, List.length_drop]; omega))) rfl ?_
              refine JD_still 12 rfl (by kernel_rfl) (by kernel_rfl) (by kernel_rfl) rfl rfl (ltn hn rfl) (pure_assign rfl rfl) ?_
              refine JD_done (by kernel_rfl) ?_
              refine J_ret ?_
              first | (exact Fin_one rfl (Le_one rfl (congrArg LL (putLL_same (by omega) hc (by simp_all))) rfl)) | (exact Fin_one rfl (Le.trans (Le_frz 33 rfl rfl) (Le_one rfl (congrArg LL (putLL_new hi hc (by intro hlt; simp_all))) rfl)))
          ·
            refine JD_only 0 rfl (by kernel_rfl) rfl (@op_lit0 _ _ _ _ _ cL _ _ _ _ _ SlT.slk rfl rfl (ltn hn rfl) rfl) rfl ?_
            refine JD_only 4 rfl (by kernel_rfl) rfl (op_append_m SlT.slk rfl rfl (ltn hn rfl) rfl rfl (src_sl_m rfl) (by first | omega | (simp only [List.length_append, List.length_cons, List.length_nil, List.length_take, List.length_drop]; omega)) (by first | omega | (simp only [List.length_append, List.length_cons, List.length_nil, List.length_take, List.length_drop]; omega))) rfl ?_
            refine JD_only 7 rfl (by kernel_rfl) rfl (op_append_m SlT.slk rfl rfl (ltn hn rfl) rfl rfl (src_own_m rfl rfl) (by first | omega | (simp only [List.length_append, List.length_cons, List.length_nil, List.length_take, List.length_drop]; omega)) (by first | omega | (simp only [List.length_append, List.length_cons, List.length_nil, List.length_take, List.length_drop]; omega))) rfl ?_
            refine JD_only 11 rfl (by kernel_rfl) rfl (op_append_m SlT.slk rfl rfl (ltn hn rfl) rfl rfl (src_sl_m rfl) (by first | omega | (simp only [List.length_append, List.length_cons, List.length_nil, List.length_take, List.length_drop]; omega)) (by first | omega | (simp only [List.length_append, List.length_cons, List.length_nil, List.length_take, List.length_drop]; omega))) rfl ?_
            refine JD_still 12 rfl (by kernel_rfl) (by kernel_rfl) (by kernel_rfl) rfl rfl (ltn hn rfl) (pure_assign rfl rfl) ?_
            refine JD_done (by kernel_rfl) ?_
            refine J_ret ?_
            first | (exact Fin_one rfl (Le_one rfl (congrArg LL (putLL_same (by omega) hc (by simp_all))) rfl)) | (exact Fin_one rfl (Le.trans (Le_frz 33 rfl rfl) (Le_one rfl (congrArg LL (putLL_new hi hc (by intro hlt; simp_all))) rfl)))
    ·
      refine jl_s rfl rfl (ltn hn rfl) ?_
      refine jl_s rfl rfl (ltn hn rfl) ?_
      refine jl_s rfl rfl (ltn hn rfl) ?_
      refine jl_s rfl rfl (ltn hn rfl) ?_
      refine jl_s rfl rfl (ltn hn rfl) ?_
      refine jl_s rfl rfl (ltn hn rfl) ?_
      refine jl rfl rfl (ltn hn rfl) (pure_pick_f rfl rfl rfl) ?_
      refine JL_nil ?_
      refine J_cond_f rfl ?_
      refine J_exit ?_
      refine J_seq ?_
      refine J_seq ?_
      refine J_region ?_
      refine jl rfl rfl (ltn hn rfl) (pure_move rfl rfl) ?_
      refine jl rfl rfl (ltn hn rfl) (pure_move rfl rfl) ?_
      refine jl rfl rfl (ltn hn rfl) (p_len_m rfl rfl) ?_
      refine jl rfl rfl (ltn hn rfl) (pure_lss rfl rfl rfl) ?_
      refine jl rfl rfl (ltn hn rfl) (pure_move rfl rfl) ?_
      refine jl_split rfl rfl rfl (fun h5 => ?_) (fun h5 => ?_)
      ·
        refine jl rfl rfl (ltn hn rfl) (pure_move rfl rfl) ?_
        refine jl rfl rfl (ltn hn rfl) (pure_move rfl rfl) ?_
        refine jl rfl rfl (ltn hn rfl) (p_idx rfl rfl rfl (by omega) (mget (by omega))) ?_
        refine jl rfl rfl (ltn hn rfl) (p_ld rfl rfl rfl) ?_
        refine jl rfl rfl (ltn hn rfl) (pure_move rfl rfl) ?_
        refine jl_o rfl (@op_call _ _ _ _ _ _ [.tmp 28, .tmp 29] _ _ _ _ _ (Same_spec _ _ (by have := hl _ (gi_mem (l := l) (i := i) (by omega)); omega) (by omega)) rfl Tryz.func117 rfl rfl rfl (ltn hn rfl) ⟨rfl, rfl, ⟨rfl, rfl, trivial⟩⟩ rfl rfl) ?_
        refine jl rfl rfl (ltn hn rfl) (pure_pick_t rfl rfl rfl) ?_
        refine JL_nil ?_
        refine J_cond rfl (fun h6 => ?_) (fun h6 => ?_)
        ·
          refine J_seq ?_
          refine J_region ?_
          refine jl rfl rfl (ltn hn rfl) (pure_move rfl rfl) ?_
          refine jl rfl rfl (ltn hn rfl) (pure_assign rfl rfl) ?_
          refine JL_nil ?_
          refine J_ret ?_
          first | (exact Fin_one rfl (Le_one rfl (congrArg LL (putLL_same (by omega) hc (by simp_all))) rfl)) | (exact Fin_one rfl (Le.trans (Le_frz 33 rfl rfl) (Le_one rfl (congrArg LL (putLL_new hi hc (by intro hlt; simp_all))) rfl)))
        ·
          refine J_skip ?_
          refine J_seq ?_
          refine J_mixed [33, 39] follows_mixed (by kernel_rfl) ?_
          refine JD1_read 1 rfl (by kernel_rfl) (by kernel_rfl) (by kernel_rfl) rfl rfl (ltn hn rfl) (pure_move rfl rfl) rfl ?_
          refine JD1_read 2 rfl (by kernel_rfl) (by kernel_rfl) (by kernel_rfl) rfl rfl (ltn hn rfl) (pure_move rfl rfl) rfl ?_
          refine JD1_read 3 rfl (by kernel_rfl) (by kernel_rfl) (by kernel_rfl) rfl rfl (ltn hn rfl) (p_slice_m rfl rfl rfl rfl (by omega) (by omega) (by omega) rfl) rfl ?_
          refine JD1_read 5 rfl (by kernel_rfl) (by kernel_rfl) (by kernel_rfl) rfl rfl (ltn hn rfl) (pure_move rfl rfl) rfl ?_
          refine JD1_read 8 rfl (by kernel_rfl) (by kernel_rfl) (by kernel_rfl) rfl rfl (ltn hn rfl) (pure_move rfl rfl) rfl ?_
          refine JD1_read 9 rfl (by kernel_rfl) (by kernel_rfl) (by kernel_rfl) rfl rfl (ltn hn rfl) (pure_move rfl rfl) rfl ?_
          refine JD1_read 10 rfl (by kernel_rfl) (by kernel_rfl) (by kernel_rfl) rfl rfl (ltn hn rfl) (p_slice_m rfl rfl rfl rfl (by omega) (by omega) (by omega) rfl) rfl ?_
          refine JD1_go ?_
          refine JD_two 0 6 rfl rfl (by kernel_rfl) rfl rfl (@op_lit0 _ _ _ _ _ cL _ _ _ _ _ SlT.slk rfl rfl (ltn hn rfl) rfl) rfl (@op_lit1 _ _ _ _ _ cL _ _ _ _ _ _ _ SlT.slk rfl rfl (ltn hn rfl) rfl rfl rfl rfl rfl) rfl ?_ ?_
          ·
            refine JD_two 4 6 rfl rfl (by kernel_rfl) rfl rfl (op_append_m SlT.slk rfl rfl (ltn hn rfl) rfl rfl (src_sl_m rfl) (by first | omega | (simp only [List.length_append, List.length_cons, List.length_nil, List.length_take, List.length_drop]; omega)) (by first | omega | (simp only [List.length_append, List.length_cons, List.length_nil, List.length_take, List.length_drop]; omega))) rfl (@op_lit1 _ _ _ _ _ cL _ _ _ _ _ _ _ SlT.slk rfl rfl (ltn hn rfl) rfl rfl rfl rfl rfl) rfl ?_ ?_
            ·
              refine JD_only 6 rfl (by kernel_rfl) rfl (@op_lit1 _ _ _ _ _ cL _ _ _ _ _ _ _ SlT.slk rfl rfl (ltn hn rfl) rfl rfl rfl rfl rfl) rfl ?_
              refine JD_only 7 rfl (by kernel_rfl) rfl (op_append_m SlT.slk rfl rfl (ltn hn rfl) rfl rfl (src_own_m rfl rfl) (by first | omega | (simp only [List.length_append, List.length_cons, List.length_nil, List.length_take, List.length_drop]; omega)) (by first | omega | (simp only [List.length_append, List.length_cons, List.length_nil, List.length_take, List.length_drop]; omega))) rfl ?_
              refine JD_only 11 rfl (by kernel_rfl) rfl (op_append_m SlT.slk rfl rfl (ltn hn rfl) rfl rfl (src_sl_m rfl) (by first | omega | (simp only [List.length_append, List.length_cons, List.length_nil, List.length_take, List.length_drop]; omega)) (by first | omega | (simp only [List.length_append, List.length_cons, List.length_nil, List.length_take, List.length_drop]; omega))) rfl ?_
              refine JD_still 12 rfl (by kernel_rfl) (by kernel_rfl) (by kernel_rfl) rfl rfl (ltn hn rfl) (pure_assign rfl rfl) ?_
              refine JD_done (by kernel_rfl) ?_
              refine J_ret ?_
              first | (exact Fin_one rfl (Le_one rfl (congrArg LL (putLL_same (by omega) hc (by simp_all))) rfl)) | (exact Fin_one rfl (Le.trans (Le_frz 33 rfl rfl) (Le_one rfl (congrArg LL (putLL_new hi hc (by intro hlt; simp_all))) rfl)))
            ·
              refine JD_only 4 rfl (by kernel_rfl) rfl (op_append_m SlT.slk rfl rfl (ltn hn rfl) rfl rfl (src_sl_m rfl) (by first | omega | (simp only [List.length_append, List.length_cons, List.length_nil, List.length_take, List.length_drop]; omega)) (by first | omega | (simp only [List.length_append, List.length_cons, List.length_nil, List.length_take, List.length_drop]; omega))) rfl ?_
              refine JD_only 7 rfl (by kernel_rfl) rfl (op_append_m SlT.slk rfl rfl (ltn hn rfl) rfl rfl (src_own_m rfl rfl) (by first | omega | (simp only [List.length_append, List.length_cons, List.length_nil, List.length_take, List.length_drop]; omega)) (by first | omega | (simp only [List.length_append, List.length_cons, List.length_nil, List.length_take, List.length_drop]; omega))) rfl ?_
              refine JD_only 11 rfl (by kernel_rfl) rfl (op_append_m SlT.slk rfl rfl (ltn hn rfl) rfl rfl (src_sl_m rfl) (by first | omega | (simp only [List.length_append, List.length_cons, List.length_nil, List.length_take, List.length_drop]; omega)) (by first | omega | (simp only [List.length_append, List.length_cons, List.length_nil, List.length_take, List.length_drop]; omega))) rfl ?_
              refine JD_still 12 rfl (by kernel_rfl) (by kernel_rfl) (by kernel_rfl) rfl rfl (ltn hn rfl) (pure_assign rfl rfl) ?_
              refine JD_done (by kernel_rfl) ?_
              refine J_ret ?_
              first | (exact Fin_one rfl (Le_one rfl (congrArg LL (putLL_same (by omega) hc (by simp_all))) rfl)) | (exact Fin_one rfl (Le.trans (Le_frz 33 rfl rfl) (Le_one rfl (congrArg LL (putLL_new hi hc (by intro hlt; simp_all))) rfl)))
          ·
            refine JD_only 0 rfl (by kernel_rfl) rfl (@op_lit0 _ _ _ _ _ cL _ _ _ _ _ SlT.slk rfl rfl (ltn hn rfl) rfl) rfl ?_
            refine JD_only 4 rfl (by kernel_rfl) rfl (op_append_m SlT.slk rfl rfl (ltn hn rfl) rfl rfl (src_sl_m rfl) (by first | omega | (simp only [List.length_append, List.length_cons, List.length_nil, List.length_take, List.length_drop]; omega)) (by first | omega | (simp only [List.length_append, List.length_cons, List.length_nil, List.length_take, List.length_drop]; omega))) rfl ?_
            refine JD_only 7 rfl (by kernel_rfl) rfl (op_append_m SlT.slk rfl rfl (ltn hn rfl) rfl rfl (src_own_m rfl rfl) (by first | omega | (simp only [List.length_append, List.length_cons, List.length_nil, List.length_take, List.length_drop]; omega)) (by first | omega | (simp only [List.length_append, List.length_cons, List.length_nil, List.length_take, List.length_drop]; omega))) rfl ?_
            refine JD_only 11 rfl (by kernel_rfl) rfl (op_append_m SlT.slk rfl rfl (ltn hn rfl) rfl rfl (src_sl_m rfl) (by first | omega | (simp only [List.length_append, List.length_cons, List.length_nil, List.length_take, List.length_drop]; omega)) (by first | omega | (simp only [List.length_append, List.length_cons, List.length_nil, List.length_take, List.length_drop]; omega))) rfl ?_
            refine JD_still 12 rfl (by kernel_rfl) (by kernel_rfl) (by kernel_rfl) rfl rfl (ltn hn rfl) (pure_assign rfl rfl) ?_
            refine JD_done (by kernel_rfl) ?_
            refine J_ret ?_
            first | (exact Fin_one rfl (Le_one rfl (congrArg LL (putLL_same (by omega) hc (by simp_all))) rfl)) | (exact Fin_one rfl (Le.trans (Le_frz 33 rfl rfl) (Le_one rfl (congrArg LL (putLL_new hi hc (by intro hlt; simp_all))) rfl)))
      ·
        refine jl_s rfl rfl (ltn hn rfl) ?_
        refine jl_s rfl rfl (ltn hn rfl) ?_
        refine jl_s rfl rfl (ltn hn rfl) ?_
        refine jl_s rfl rfl (ltn hn rfl) ?_
        refine jl_s rfl rfl (ltn hn rfl) ?_
        refine jl_s rfl rfl (ltn hn rfl) ?_
        refine jl rfl rfl (ltn hn rfl) (pure_pick_f rfl rfl rfl) ?_
        refine JL_nil ?_
        refine J_cond_f rfl ?_
        refine J_skip ?_
        refine J_seq ?_
        refine J_mixed [33, 39] follows_mixed (by kernel_rfl) ?_
        refine JD1_read 1 rfl (by kernel_rfl) (by kernel_rfl) (by kernel_rfl) rfl rfl (ltn hn rfl) (pure_move rfl rfl) rfl ?_
        refine JD1_read 2 rfl (by kernel_rfl) (by kernel_rfl) (by kernel_rfl) rfl rfl (ltn hn rfl) (pure_move rfl rfl) rfl ?_
        refine JD1_read 3 rfl (by kernel_rfl) (by kernel_rfl) (by kernel_rfl) rfl rfl (ltn hn rfl) (p_slice_m rfl rfl rfl rfl (by omega) (by omega) (by omega) rfl) rfl ?_
        refine JD1_read 5 rfl (by kernel_rfl) (by kernel_rfl) (by kernel_rfl) rfl rfl (ltn hn rfl) (pure_move rfl rfl) rfl ?_
        refine JD1_read 8 rfl (by kernel_rfl) (by kernel_rfl) (by kernel_rfl) rfl rfl (ltn hn rfl) (pure_move rfl rfl) rfl ?_
        refine JD1_read 9 rfl (by kernel_rfl) (by kernel_rfl) (by kernel_rfl) rfl rfl (ltn hn rfl) (pure_move rfl rfl) rfl ?_
        refine JD1_read 10 rfl (by kernel_rfl) (by kernel_rfl) (by kernel_rfl) rfl rfl (ltn hn rfl) (p_slice_m rfl rfl rfl rfl (by omega) (by omega) (by omega) rfl) rfl ?_
        refine JD1_go ?_
        refine JD_two 0 6 rfl rfl (by kernel_rfl) rfl rfl (@op_lit0 _ _ _ _ _ cL _ _ _ _ _ SlT.slk rfl rfl (ltn hn rfl) rfl) rfl (@op_lit1 _ _ _ _ _ cL _ _ _ _ _ _ _ SlT.slk rfl rfl (ltn hn rfl) rfl rfl rfl rfl rfl) rfl ?_ ?_
        ·
          refine JD_two 4 6 rfl rfl (by kernel_rfl) rfl rfl (op_append_m SlT.slk rfl rfl (ltn hn rfl) rfl rfl (src_sl_m rfl) (by first | omega | (simp only [List.length_append, List.length_cons, List.length_nil, List.length_take, List.length_drop]; omega)) (by first | omega | (simp only [List.length_append, List.length_cons, List.length_nil, List.length_take, List.length_drop]; omega))) rfl (@op_lit1 _ _ _ _ _ cL _ _ _ _ _ _ _ SlT.slk rfl rfl (ltn hn rfl) rfl rfl rfl rfl rfl) rfl ?_ ?_
          ·
            refine JD_only 6 rfl (by kernel_rfl) rfl (@op_lit1 _ _ _ _ _ cL _ _ _ _ _ _ _ SlT.slk rfl rfl (ltn hn rfl) rfl rfl rfl rfl rfl) rfl ?_
            refine JD_only 7 rfl (by kernel_rfl) rfl (op_append_m SlT.slk rfl rfl (ltn hn rfl) rfl rfl (src_own_m rfl rfl) (by first | omega | (simp only [List.length_append, List.length_cons, List.length_nil, List.length_take, List.length_drop]; omega)) (by first | omega | (simp only [List.length_append, List.length_cons, List.length_nil, List.length_take, List.length_drop]; omega))) rfl ?_
            refine JD_only 11 rfl (by kernel_rfl) rfl (op_append_m SlT.slk rfl rfl (ltn hn rfl) rfl rfl (src_sl_m rfl) (by first | omega | (simp only [List.length_append, List.length_cons, List.length_nil, List.length_take, List.length_drop]; omega)) (by first | omega | (simp only [List.length_append, List.length_cons, List.length_nil, List.length_take, List.length_drop]; omega))) rfl ?_
            refine JD_still 12 rfl (by kernel_rfl) (by kernel_rfl) (by kernel_rfl) rfl rfl (ltn hn rfl) (pure_assign rfl rfl) ?_
            refine JD_done (by kernel_rfl) ?_
            refine J_ret ?_
            first | (exact Fin_one rfl (Le_one rfl (congrArg LL (putLL_same (by omega) hc (by simp_all))) rfl)) | (exact Fin_one rfl (Le.trans (Le_frz 33 rfl rfl) (Le_one rfl (congrArg LL (putLL_new hi hc (by intro hlt; simp_all))) rfl)))
          ·
            refine JD_only 4 rfl (by kernel_rfl) rfl (op_append_m SlT.slk rfl rfl (ltn hn rfl) rfl rfl (src_sl_m rfl) (by first | omega | (simp only [List.length_append, List.length_cons, List.length_nil, List.length_take, List.length_drop]; omega)) (by first | omega | (simp only [List.length_append, List.length_cons, List.length_nil, List.length_take, List.length_drop]; omega))) rfl ?_
            refine JD_only 7 rfl (by kernel_rfl) rfl (op_append_m SlT.slk rfl rfl (ltn hn rfl) rfl rfl (src_own_m rfl rfl) (by first | omega | (simp only [List.length_append, List.length_cons, List.length_nil, List.length_take, List.length_drop]; omega)) (by first | omega | (simp only [List.length_append, List.length_cons, List.length_nil, List.length_take, List.length_drop]; omega))) rfl ?_
            refine JD_only 11 rfl (by kernel_rfl) rfl (op_append_m SlT.slk rfl rfl (ltn hn rfl) rfl rfl (src_sl_m rfl) (by first | omega | (simp only [List.length_append, List.length_cons, List.length_nil, List.length_take, List.length_drop]; omega)) (by first | omega | (simp only [List.length_append, List.length_cons, List.length_nil, List.length_take, List.length_drop]; omega))) rfl ?_
            refine JD_still 12 rfl (by kernel_rfl) (by kernel_rfl) (by kernel_rfl) rfl rfl (ltn hn rfl) (pure_assign rfl rfl) ?_
            refine JD_done (by kernel_rfl) ?_
            refine J_ret ?_
            first | (exact Fin_one rfl (Le_one rfl (congrArg LL (putLL_same (by omega) hc (by simp_all))) rfl)) | (exact Fin_one rfl (Le.trans (Le_frz 33 rfl rfl) (Le_one rfl (congrArg LL (putLL_new hi hc (by intro hlt; simp_all))) rfl)))
        ·
          refine JD_only 0 rfl (by kernel_rfl) rfl (@op_lit0 _ _ _ _ _ cL _ _ _ _ _ SlT.slk rfl rfl (ltn hn rfl) rfl) rfl ?_
          refine JD_only 4 rfl (by kernel_rfl) rfl (op_append_m SlT.slk rfl rfl (ltn hn rfl) rfl rfl (src_sl_m rfl) (by first | omega | (simp only [List.length_append, List.length_cons, List.length_nil, List.length_take, List.length_drop]; omega)) (by first | omega | (simp only [List.length_append, List.length_cons, List.length_nil, List.length_take, List.length_drop]; omega))) rfl ?_
          refine JD_only 7 rfl (by kernel_rfl) rfl (op_append_m SlT.slk rfl rfl (ltn hn rfl) rfl rfl (src_own_m rfl rfl) (by first | omega | (simp only [List.length_append, List.length_cons, List.length_nil, List.length_take, List.length_drop]; omega)) (by first | omega | (simp only [List.length_append, List.length_cons, List.length_nil, List.length_take, List.length_drop]; omega))) rfl ?_
          refine JD_only 11 rfl (by kernel_rfl) rfl (op_append_m SlT.slk rfl rfl (ltn hn rfl) rfl rfl (src_sl_m rfl) (by first | omega | (simp only [List.length_append, List.length_cons, List.length_nil, List.length_take, List.length_drop]; omega)) (by first | omega | (simp only [List.length_append, List.length_cons, List.length_nil, List.length_take, List.length_drop]; omega))) rfl ?_
          refine JD_still 12 rfl (by kernel_rfl) (by kernel_rfl) (by kernel_rfl) rfl rfl (ltn hn rfl) (pure_assign rfl rfl) ?_
          refine JD_done (by kernel_rfl) ?_
          refine J_ret ?_
          first | (exact Fin_one rfl (Le_one rfl (congrArg LL (putLL_same (by omega) hc (by simp_all))) rfl)) | (exact Fin_one rfl (Le.trans (Le_frz 33 rfl rfl) (Le_one rfl (congrArg LL (putLL_new hi hc (by intro hlt; simp_all))) rfl)))
theorem At_spec (l : List (List Int)) (x : List Int) (hn : l.length < 2^40) (hx : x.length < 2^40) (hl : ∀ y ∈ l, y.length < 2^40) : Spec Tryz.prog 71 [LL l, L x] (I (atL l x)) [] := by
  refine Spec.intro (c := _) Tryz.func71 rfl (Nat.le_of_ble_eq_true rfl) (fun C hC hfx => ?_)
  have hn : C.n = 19 := hC
  refine (show J _ _ _ _ (⟨[(0, LL l), (1, L x)], []⟩ : AS) from ?_)
  refine J_seq ?_
  refine J_region ?_
  refine jl rfl rfl (ltn hn rfl) (pure_assign rfl rfl) ?_
  refine JL_nil ?_
  refine J_seq ?_
  refine J_seq ?_
  refine J_region ?_
  refine jl rfl rfl (ltn hn rfl) (pure_assign rfl rfl) ?_
  refine JL_nil ?_
  refine J_block ?_
  refine J_loop (X := Nat) (fun i => ⟨[(0, LL l), (1, L x), (5, I (i : Nat))], []⟩) (fun i => i ≤ l.length ∧ (l.take i).any (fun y => decide (y = x)) = false) (fun i => l.length - i) 0 ?_ ?_ ?_
  · exact ⟨by simp, by simp⟩
  ·
    refine Le_sub C _ _ ⟨rfl, ⟨rfl, ⟨rfl, trivial⟩⟩⟩ trivial rfl rfl
  ·
    intro i hR
    obtain ⟨hi, hc⟩ := hR
    refine J_seq ?_
    refine J_seq ?_
    refine J_region ?_
    refine jl rfl rfl (ltn hn rfl) (pure_move rfl rfl) ?_
    refine jl rfl rfl (ltn hn rfl) (pure_move rfl rfl) ?_
    refine jl rfl rfl (ltn hn rfl) (p_len_m rfl rfl) ?_
    refine jl rfl rfl (ltn hn rfl) (pure_lss rfl rfl rfl) ?_
    refine JL_nil ?_
    refine J_cond_p rfl (fun h1 => ?_) (fun h1 => ?_)
    ·
      refine J_skip ?_
      refine J_seq ?_
      refine J_block ?_
      refine J_seq ?_
      refine J_region ?_
      refine jl rfl rfl (ltn hn rfl) (pure_move rfl rfl) ?_
      refine jl rfl rfl (ltn hn rfl) (pure_move rfl rfl) ?_
      refine jl rfl rfl (ltn hn rfl) (p_idx rfl rfl rfl (by omega) (mget (by omega))) ?_
      refine jl rfl rfl (ltn hn rfl) (p_ld rfl rfl rfl) ?_
      refine jl rfl rfl (ltn hn rfl) (pure_move rfl rfl) ?_
      refine jl_o rfl (@op_call _ _ _ _ _ _ [.tmp 15, .tmp 16] _ _ _ _ _ (Same_spec _ _ (by have := hl _ (gi_mem h1); omega) (by omega)) rfl Tryz.func117 rfl rfl rfl (ltn hn rfl) ⟨rfl, rfl, ⟨rfl, rfl, trivial⟩⟩ rfl rfl) ?_
      refine JL_nil ?_
      refine J_cond rfl (fun h2 => ?_) (fun h2 => ?_)
      ·
        refine J_seq ?_
        refine J_region ?_
        refine jl rfl rfl (ltn hn rfl) (pure_move rfl rfl) ?_
        refine jl rfl rfl (ltn hn rfl) (pure_assign rfl rfl) ?_
        refine JL_nil ?_
        refine J_ret ?_
        first | (exact Fin_one rfl (Le_one rfl (vi (at_hit h1 hc (by simpa using h2))) rfl)) | exact Fin_one rfl (Le_one rfl (vi (at_miss (by rw [take_all h1] at hc; exact hc))) rfl)
      ·
        refine J_skip ?_
        refine J_region ?_
        refine jl rfl rfl (ltn hn rfl) (pure_move rfl rfl) ?_
        refine jl rfl rfl (ltn hn rfl) (pure_add rfl rfl rfl (by omega)) ?_
        refine jl rfl rfl (ltn hn rfl) (pure_assign rfl rfl) ?_
        refine JL_nil ?_
        refine ⟨i + 1, ?_, ?_, ?_⟩
        · exact ⟨by omega, any_step h1 hc h2⟩
        · omega
        ·
          refine Le_sub C _ _ ⟨rfl, ⟨rfl, ⟨(eqv rfl (vi (by omega))), trivial⟩⟩⟩ trivial rfl rfl
    ·
      refine J_exit ?_
      refine J_seq ?_
      refine J_region ?_
      refine jl rfl rfl (ltn hn rfl) (pure_assign rfl rfl) ?_
      refine JL_nil ?_
      refine J_ret ?_
      first | (exact Fin_one rfl (Le_one rfl (vi (at_hit h1 hc (by simpa using h2))) rfl)) | exact Fin_one rfl (Le_one rfl (vi (at_miss (by rw [take_all h1] at hc; exact hc))) rfl)
theorem Sorted_spec (l : List Int) (hl : l.length < 2^40) : Spec Tryz.prog 127 [L l] (L (sortL l)) [] := by
  refine Spec.intro (c := _) Tryz.func127 rfl (Nat.le_of_ble_eq_true rfl) (fun C hC hfx => ?_)
  have hn : C.n = 46 := hC
  refine (show J _ _ _ _ (⟨[(0, L l)], []⟩ : AS) from ?_)
  refine J_seq ?_
  refine J_region ?_
  refine jl rfl rfl (ltn hn rfl) (pure_assign rfl rfl) ?_
  refine JL_nil ?_
  refine J_seq ?_
  refine J_region ?_
  refine jl_o rfl (@op_lit0 _ _ _ _ _ cI _ _ _ _ _ SlT.slk rfl rfl (ltn hn rfl) rfl) ?_
  refine jl rfl rfl (ltn hn rfl) (pure_assign rfl rfl) ?_
  refine JL_nil ?_
  refine J_seq ?_
  refine J_seq ?_
  refine J_region ?_
  refine jl rfl rfl (ltn hn rfl) (pure_assign rfl rfl) ?_
  refine JL_nil ?_
  refine J_block ?_
  refine J_le (Le_frz 6 rfl rfl) ?_
  refine J_loop (X := Nat) (fun i => ⟨[(0, L l), (3, L ((l.take i).foldl insL [])), (4, I (i : Nat))], []⟩) (fun i => i ≤ l.length) (fun i => l.length - i) 0 ?_ ?_ ?_
  · omega
  ·
    refine Le_sub C _ _ ⟨rfl, ⟨rfl, ⟨rfl, trivial⟩⟩⟩ trivial rfl rfl
  ·
    intro i hi
    refine J_seq ?_
    refine J_seq ?_
    refine J_region ?_
    refine jl rfl rfl (ltn hn rfl) (pure_move rfl rfl) ?_
    refine jl rfl rfl (ltn hn rfl) (pure_move rfl rfl) ?_
    refine jl rfl rfl (ltn hn rfl) (p_len_m rfl rfl) ?_
    refine jl rfl rfl (ltn hn rfl) (pure_lss rfl rfl rfl) ?_
    refine JL_nil ?_
    refine J_cond_p rfl (fun h1 => ?_) (fun h1 => ?_)
    ·
      refine J_skip ?_
      refine J_seq ?_
      refine J_block ?_
      refine J_seq ?_
      refine J_region ?_
      refine jl rfl rfl (ltn hn rfl) (pure_assign rfl rfl) ?_
      refine JL_nil ?_
      refine J_seq ?_
      refine J_block ?_
      have hS : ((l.take i).foldl insL []).length = i := by rw [fold_ins_len, List.length_take, List.length_nil]; omega
      refine J_loop (X := Nat) (fun q => ⟨[(0, L l), (3, L ((l.take i).foldl insL [])), (4, I (i : Nat)), (5, I (q : Nat))], []⟩) (fun q => q ≤ ((l.take i).foldl insL []).length ∧ (((l.take i).foldl insL []).take q).all (· ≤ gi l i) = true) (fun q => ((l.take i).foldl insL []).length - q) 0 ?_ ?_ ?_
      · exact ⟨by simp, by simp⟩
      ·
        refine Le_sub C _ _ ⟨rfl, ⟨rfl, ⟨rfl, ⟨rfl, trivial⟩⟩⟩⟩ trivial rfl rfl
      ·
        intro q hR
        obtain ⟨hq, hc⟩ := hR
        refine J_seq ?_
        refine J_seq ?_
        refine J_draw follows_mixed (by kernel_rfl) ?_
        refine jq rfl rfl (ltn hn rfl) (pure_move rfl rfl) ?_
        refine jq rfl rfl (ltn hn rfl) (pure_move rfl rfl) ?_
        refine jq rfl rfl (ltn hn rfl) (p_len_m rfl rfl) ?_
        refine jq rfl rfl (ltn hn rfl) (pure_lss rfl rfl rfl) ?_
        refine jq rfl rfl (ltn hn rfl) (pure_move rfl rfl) ?_
        refine jq_split rfl rfl rfl (fun h2 => ?_) (fun h2 => ?_)
        ·
          refine jq rfl rfl (ltn hn rfl) (pure_move rfl rfl) ?_
          refine jq rfl rfl (ltn hn rfl) (pure_move rfl rfl) ?_
          refine jq rfl rfl (ltn hn rfl) (p_idx rfl rfl rfl (by omega) (mget (by omega))) ?_
          refine jq rfl rfl (ltn hn rfl) (p_ld rfl rfl rfl) ?_
          refine jq rfl rfl (ltn hn rfl) (pure_move rfl rfl) ?_
          refine jq rfl rfl (ltn hn rfl) (pure_move rfl rfl) ?_
          refine jq rfl rfl (ltn hn rfl) (p_idx rfl rfl rfl (by omega) (mget (by omega))) ?_
          refine jq rfl rfl (ltn hn rfl) (p_ld rfl rfl rfl) ?_
          refine jq rfl rfl (ltn hn rfl) (pure_leq rfl rfl rfl) ?_
          refine jq rfl rfl (ltn hn rfl) (pure_pick_t rfl rfl rfl) ?_
          refine JQ_nil ?_
          refine J_cond_p rfl (fun h3 => ?_) (fun h3 => ?_)
          ·
            refine J_skip ?_
            refine J_block ?_
            refine J_region ?_
            refine jl rfl rfl (ltn hn rfl) (pure_move rfl rfl) ?_
            refine jl rfl rfl (ltn hn rfl) (pure_add rfl rfl rfl (by omega)) ?_
            refine jl rfl rfl (ltn hn rfl) (pure_assign rfl rfl) ?_
            refine JL_nil ?_
            refine ⟨q + 1, ?_, ?_, ?_⟩
            · exact ⟨by omega, all_step (by assumption) hc (by simp_all)⟩
            · omega
            ·
              refine Le_sub C _ _ ⟨rfl, ⟨rfl, ⟨rfl, ⟨(eqv rfl (vi (by omega))), trivial⟩⟩⟩⟩ trivial rfl rfl
          ·
            refine J_exit ?_
            refine J_mixed [30, 39] follows_mixed (by kernel_rfl) ?_
            refine JD1_read 1 rfl (by kernel_rfl) (by kernel_rfl) (by kernel_rfl) rfl rfl (ltn hn rfl) (pure_move rfl rfl) rfl ?_
            refine JD1_read 2 rfl (by kernel_rfl) (by kernel_rfl) (by kernel_rfl) rfl rfl (ltn hn rfl) (pure_move rfl rfl) rfl ?_
            refine JD1_read 3 rfl (by kernel_rfl) (by kernel_rfl) (by kernel_rfl) rfl rfl (ltn hn rfl) (p_slice_m rfl rfl rfl rfl (by omega) (by omega) (by omega) rfl) rfl ?_
            refine JD1_read 5 rfl (by kernel_rfl) (by kernel_rfl) (by kernel_rfl) rfl rfl (ltn hn rfl) (pure_move rfl rfl) rfl ?_
            refine JD1_read 6 rfl (by kernel_rfl) (by kernel_rfl) (by kernel_rfl) rfl rfl (ltn hn rfl) (pure_move rfl rfl) rfl ?_
            refine JD1_read 7 rfl (by kernel_rfl) (by kernel_rfl) (by kernel_rfl) rfl rfl (ltn hn rfl) (p_idx rfl rfl rfl (by omega) (mget (by omega))) rfl ?_
            refine JD1_read 8 rfl (by kernel_rfl) (by kernel_rfl) (by kernel_rfl) rfl rfl (ltn hn rfl) (p_ld rfl rfl rfl) rfl ?_
            refine JD1_read 11 rfl (by kernel_rfl) (by kernel_rfl) (by kernel_rfl) rfl rfl (ltn hn rfl) (pure_move rfl rfl) rfl ?_
            refine JD1_read 12 rfl (by kernel_rfl) (by kernel_rfl) (by kernel_rfl) rfl rfl (ltn hn rfl) (pure_move rfl rfl) rfl ?_
            refine JD1_read 13 rfl (by kernel_rfl) (by kernel_rfl) (by kernel_rfl) rfl rfl (ltn hn rfl) (p_slice_m rfl rfl rfl rfl (by omega) (by omega) (by omega) rfl) rfl ?_
            refine JD1_go ?_
            refine JD_two 0 9 rfl rfl (by kernel_rfl) rfl rfl (@op_lit0 _ _ _ _ _ cI _ _ _ _ _ SlT.slk rfl rfl (ltn hn rfl) rfl) rfl (@op_lit1 _ _ _ _ _ cI _ _ _ _ _ _ _ SlT.slk rfl rfl (ltn hn rfl) rfl rfl rfl rfl rfl) rfl ?_ ?_
            ·
              refine JD_two 4 9 rfl rfl (by kernel_rfl) rfl rfl (op_append_m SlT.slk rfl rfl (ltn hn rfl) rfl rfl (src_sl_m rfl) (by first | omega | (simp only [List.length_append, List.length_cons, List.length_nil, List.length_take, List.length_drop]; omega)) (by first | omega | (simp only [List.length_append, List.length_cons, List.length_nil, List.length_take, List.length_drop]; omega))) rfl (@op_lit1 _ _ _ _ _ cI _ _ _ _ _ _ _ SlT.slk rfl rfl (ltn hn rfl) rfl rfl rfl rfl rfl) rfl ?_ ?_
              ·
                refine JD_only 9 rfl (by kernel_rfl) rfl (@op_lit1 _ _ _ _ _ cI _ _ _ _ _ _ _ SlT.slk rfl rfl (ltn hn rfl) rfl rfl rfl rfl rfl) rfl ?_
                refine JD_only 10 rfl (by kernel_rfl) rfl (op_append_m SlT.slk rfl rfl (ltn hn rfl) rfl rfl (src_own_m rfl rfl) (by first | omega | (simp only [List.length_append, List.length_cons, List.length_nil, List.length_take, List.length_drop]; omega)) (by first | omega | (simp only [List.length_append, List.length_cons, List.length_nil, List.length_take, List.length_drop]; omega))) rfl ?_
                refine JD_only 14 rfl (by kernel_rfl) rfl (op_append_m SlT.slk rfl rfl (ltn hn rfl) rfl rfl (src_sl_m rfl) (by first | omega | (simp only [List.length_append, List.length_cons, List.length_nil, List.length_take, List.length_drop]; omega)) (by first | omega | (simp only [List.length_append, List.length_cons, List.length_nil, List.length_take, List.length_drop]; omega))) rfl ?_
                refine JD_still 15 rfl (by kernel_rfl) (by kernel_rfl) (by kernel_rfl) rfl rfl (ltn hn rfl) (pure_assign rfl rfl) ?_
                refine JD_done (by kernel_rfl) ?_
                refine J_region ?_
                refine jl rfl rfl (ltn hn rfl) (pure_move rfl rfl) ?_
                refine jl rfl rfl (ltn hn rfl) (pure_add rfl rfl rfl (by omega)) ?_
                refine jl rfl rfl (ltn hn rfl) (pure_assign rfl rfl) ?_
                refine JL_nil ?_
                refine ⟨i + 1, ?_, ?_, ?_⟩
                · omega
                · omega
                ·
                  refine Le.trans (Le_frz 30 rfl rfl) ?_
                  refine Le_sub C _ _ ⟨rfl, ⟨(eqv rfl (congrArg L (by rw [take_gi (by omega), List.foldl_append]; exact ins_new hq hc (by intro hlt; simp_all <;> omega)))), ⟨(eqv rfl (vi (by omega))), trivial⟩⟩⟩ trivial rfl rfl
              ·
                refine JD_only 4 rfl (by kernel_rfl) rfl (op_append_m SlT.slk rfl rfl (ltn hn rfl) rfl rfl (src_sl_m rfl) (by first | omega | (simp only [List.length_append, List.length_cons, List.length_nil, List.length_take, List.length_drop]; omega)) (by first | omega | (simp only [List.length_append, List.length_cons, List.length_nil, List.length_take, List.length_drop]; omega))) rfl ?_
                refine JD_only 10 rfl (by kernel_rfl) rfl (op_append_m SlT.slk rfl rfl (ltn hn rfl) rfl rfl (src_own_m rfl rfl) (by first | omega | (simp only [List.length_append, List.length_cons, List.length_nil, List.length_take, List.length_drop]; omega)) (by first | omega | (simp only [List.length_append, List.length_cons, List.length_nil, List.length_take, List.length_drop]; omega))) rfl ?_
                refine JD_only 14 rfl (by kernel_rfl) rfl (op_append_m SlT.slk rfl rfl (ltn hn rfl) rfl rfl (src_sl_m rfl) (by first | omega | (simp only [List.length_append, List.length_cons, List.length_nil, List.length_take, List.length_drop]; omega)) (by first | omega | (simp only [List.length_append, List.length_cons, List.length_nil, List.length_take, List.length_drop]; omega))) rfl ?_
                refine JD_still 15 rfl (by kernel_rfl) (by kernel_rfl) (by kernel_rfl) rfl rfl (ltn hn rfl) (pure_assign rfl rfl) ?_
                refine JD_done (by kernel_rfl) ?_
                refine J_region ?_
                refine jl rfl rfl (ltn hn rfl) (pure_move rfl rfl) ?_
                refine jl rfl rfl (ltn hn rfl) (pure_add rfl rfl rfl (by omega)) ?_
                refine jl rfl rfl (ltn hn rfl) (pure_assign rfl rfl) ?_
                refine JL_nil ?_
                refine ⟨i + 1, ?_, ?_, ?_⟩
                · omega
                · omega
                ·
                  refine Le.trans (Le_frz 30 rfl rfl) ?_
                  refine Le_sub C _ _ ⟨rfl, ⟨(eqv rfl (congrArg L (by rw [take_gi (by omega), List.foldl_append]; exact ins_new hq hc (by intro hlt; simp_all <;> omega)))), ⟨(eqv rfl (vi (by omega))), trivial⟩⟩⟩ trivial rfl rfl
            ·
              refine JD_only 0 rfl (by kernel_rfl) rfl (@op_lit0 _ _ _ _ _ cI _ _ _ _ _ SlT.slk rfl rfl (ltn hn rfl) rfl) rfl ?_
              refine JD_only 4 rfl (by kernel_rfl) rfl (op_append_m SlT.slk rfl rfl (ltn hn rfl) rfl rfl (src_sl_m rfl) (by first | omega | (simp only [List.length_append, List.length_cons, List.length_nil, List.length_take, List.length_drop]; omega)) (by first | omega | (simp only [List.length_append, List.length_cons, List.length_nil, List.length_take, List.length_drop]; omega))) rfl ?_
              refine JD_only 10 rfl (by kernel_rfl) rfl (op_append_m SlT.slk rfl rfl (ltn hn rfl) rfl rfl (src_own_m rfl rfl) (by first | omega | (simp only [List.length_append, List.length_cons, List.length_nil, List.length_take, List.length_drop]; omega)) (by first | omega | (simp only [List.length_append, List.length_cons, List.length_nil, List.length_take, List.length_drop]; omega))) rfl ?_
              refine JD_only 14 rfl (by kernel_rfl) rfl (op_append_m SlT.slk rfl rfl (ltn hn rfl) rfl rfl (src_sl_m rfl) (by first | omega | (simp only [List.length_append, List.length_cons, List.length_nil, List.length_take, List.length_drop]; omega)) (by first | omega | (simp only [List.length_append, List.length_cons, List.length_nil, List.length_take, List.length_drop]; omega))) rfl ?_
              refine JD_still 15 rfl (by kernel_rfl) (by kernel_rfl) (by kernel_rfl) rfl rfl (ltn hn rfl) (pure_assign rfl rfl) ?_
              refine JD_done (by kernel_rfl) ?_
              refine J_region ?_
              refine jl rfl rfl (ltn hn rfl) (pure_move rfl rfl) ?_
              refine jl rfl rfl (ltn hn rfl) (pure_add rfl rfl rfl (by omega)) ?_
              refine jl rfl rfl (ltn hn rfl) (pure_assign rfl rfl) ?_
              refine JL_nil ?_
              refine ⟨i + 1, ?_, ?_, ?_⟩
              · omega
              · omega
              ·
                refine Le.trans (Le_frz 30 rfl rfl) ?_
                refine Le_sub C _ _ ⟨rfl, ⟨(eqv rfl (congrArg L (by rw [take_gi (by omega), List.foldl_append]; exact ins_new hq hc (by intro hlt; simp_all <;> omega)))), ⟨(eqv rfl (vi (by omega))), trivial⟩⟩⟩ trivial rfl rfl
        ·
          refine jq_s rfl rfl (ltn hn rfl) ?_
          refine jq_s rfl rfl (ltn hn rfl) ?_
          refine jq_s rfl rfl (ltn hn rfl) ?_
          refine jq_s rfl rfl (ltn hn rfl) ?_
          refine jq_s rfl rfl (ltn hn rfl) ?_
          refine jq_s rfl rfl (ltn hn rfl) ?_
          refine jq_s rfl rfl (ltn hn rfl) ?_
          refine jq_s rfl rfl (ltn hn rfl) ?_
          refine jq_s rfl rfl (ltn hn rfl) ?_
          refine jq rfl rfl (ltn hn rfl) (pure_pick_f rfl rfl rfl) ?_
          refine JQ_nil ?_
          refine J_cond_f rfl ?_
          refine J_exit ?_
          refine J_mixed [30, 39] follows_mixed (by kernel_rfl) ?_
          refine JD1_read 1 rfl (by kernel_rfl) (by kernel_rfl) (by kernel_rfl) rfl rfl (ltn hn rfl) (pure_move rfl rfl) rfl ?_
          refine JD1_read 2 rfl (by kernel_rfl) (by kernel_rfl) (by kernel_rfl) rfl rfl (ltn hn rfl) (pure_move rfl rfl) rfl ?_
          refine JD1_read 3 rfl (by kernel_rfl) (by kernel_rfl) (by kernel_rfl) rfl rfl (ltn hn rfl) (p_slice_m rfl rfl rfl rfl (by omega) (by omega) (by omega) rfl) rfl ?_
          refine JD1_read 5 rfl (by kernel_rfl) (by kernel_rfl) (by kernel_rfl) rfl rfl (ltn hn rfl) (pure_move rfl rfl) rfl ?_
          refine JD1_read 6 rfl (by kernel_rfl) (by kernel_rfl) (by kernel_rfl) rfl rfl (ltn hn rfl) (pure_move rfl rfl) rfl ?_
          refine JD1_read 7 rfl (by kernel_rfl) (by kernel_rfl) (by kernel_rfl) rfl rfl (ltn hn rfl) (p_idx rfl rfl rfl (by omega) (mget (by omega))) rfl ?_
          refine JD1_read 8 rfl (by kernel_rfl) (by kernel_rfl) (by kernel_rfl) rfl rfl (ltn hn rfl) (p_ld rfl rfl rfl) rfl ?_
          refine JD1_read 11 rfl (by kernel_rfl) (by kernel_rfl) (by kernel_rfl) rfl rfl (ltn hn rfl) (pure_move rfl rfl) rfl ?_
          refine JD1_read 12 rfl (by kernel_rfl) (by kernel_rfl) (by kernel_rfl) rfl rfl (ltn hn rfl) (pure_move rfl rfl) rfl ?_
          refine JD1_read 13 rfl (by kernel_rfl) (by kernel_rfl) (by kernel_rfl) rfl rfl (ltn hn rfl) (p_slice_m rfl rfl rfl rfl (by omega) (by omega) (by omega) rfl) rfl ?_
          refine JD1_go ?_
          refine JD_two 0 9 rfl rfl (by kernel_rfl) rfl rfl (@op_lit0 _ _ _ _ _ cI _ _ _ _ _ SlT.slk rfl rfl (ltn hn rfl) rfl) rfl (@op_lit1 _ _ _ _ _ cI _ _ _ _ _ _ _ SlT.slk rfl rfl (ltn hn rfl) rfl rfl rfl rfl rfl) rfl ?_ ?_
          ·
            refine JD_two 4 9 rfl rfl (by kernel_rfl) rfl rfl (op_append_m SlT.slk rfl rfl (ltn hn rfl) rfl rfl (src_sl_m rfl) (by first | omega | (simp only [List.length_append, List.length_cons, List.length_nil, List.length_take, List.length_drop]; omega)) (by first | omega | (simp only [List.length_append, List.length_cons, List.length_nil, List.length_take, List.length_drop]; omega))) rfl (@op_lit1 _ _ _ _ _ cI _ _ _ _ _ _ _ SlT.slk rfl rfl (ltn hn rfl) rfl rfl rfl rfl rfl) rfl ?_ ?_
            ·
              refine JD_only 9 rfl (by kernel_rfl) rfl (@op_lit1 _ _ _ _ _ cI _ _ _ _ _ _ _ SlT.slk rfl rfl (ltn hn rfl) rfl rfl rfl rfl rfl) rfl ?_
              refine JD_only 10 rfl (by kernel_rfl) rfl (op_append_m SlT.slk rfl rfl (ltn hn rfl) rfl rfl (src_own_m rfl rfl) (by first | omega | (simp only [List.length_append, List.length_cons, List.length_nil, List.length_take, List.length_drop]; omega)) (by first | omega | (simp only [List.length_append, List.length_cons, List.length_nil, List.length_take, List.length_drop]; omega))) rfl ?_
              refine JD_only 14 rfl (by kernel_rfl) rfl (op_append_m SlT.slk rfl rfl (ltn hn rfl) rfl rfl (src_sl_m rfl) (by first | omega | (simp only [List.length_append, List.length_cons, List.length_nil, List.length_take, List.length_drop]; omega)) (by first | omega | (simp only [List.length_append, List.length_cons, List.length_nil, List.length_take, List.length_drop]; omega))) rfl ?_
              refine JD_still 15 rfl (by kernel_rfl) (by kernel_rfl) (by kernel_rfl) rfl rfl (ltn hn rfl) (pure_assign rfl rfl) ?_
              refine JD_done (by kernel_rfl) ?_
              refine J_region ?_
              refine jl rfl rfl (ltn hn rfl) (pure_move rfl rfl) ?_
              refine jl rfl rfl (ltn hn rfl) (pure_add rfl rfl rfl (by omega)) ?_
              refine jl rfl rfl (ltn hn rfl) (pure_assign rfl rfl) ?_
              refine JL_nil ?_
              refine ⟨i + 1, ?_, ?_, ?_⟩
              · omega
              · omega
              ·
                refine Le.trans (Le_frz 30 rfl rfl) ?_
                refine Le_sub C _ _ ⟨rfl, ⟨(eqv rfl (congrArg L (by rw [take_gi (by omega), List.foldl_append]; exact ins_new hq hc (by intro hlt; simp_all <;> omega)))), ⟨(eqv rfl (vi (by omega))), trivial⟩⟩⟩ trivial rfl rfl
            ·
              refine JD_only 4 rfl (by kernel_rfl) rfl (op_append_m SlT.slk rfl rfl (ltn hn rfl) rfl rfl (src_sl_m rfl) (by first | omega | (simp only [List.length_append, List.length_cons, List.length_nil, List.length_take, List.length_drop]; omega)) (by first | omega | (simp only [List.length_append, List.length_cons, List.length_nil, List.length_take, List.length_drop]; omega))) rfl ?_
              refine JD_only 10 rfl (by kernel_rfl) rfl (op_append_m SlT.slk rfl rfl (ltn hn rfl) rfl rfl (src_own_m rfl rfl) (by first | omega | (simp only [List.length_append, List.length_cons, List.length_nil, List.length_take, List.length_drop]; omega)) (by first | omega | (simp only [List.length_append, List.length_cons, List.length_nil, List.length_take, List.length_drop]; omega))) rfl ?_
              refine JD_only 14 rfl (by kernel_rfl) rfl (op_append_m SlT.slk rfl rfl (ltn hn rfl) rfl rfl (src_sl_m rfl) (by first | omega | (simp only [List.length_append, List.length_cons, List.length_nil, List.length_take, List.length_drop]; omega)) (by first | omega | (simp only [List.length_append, List.length_cons, List.length_nil, List.length_take, List.length_drop]; omega))) rfl ?_
              refine JD_still 15 rfl (by kernel_rfl) (by kernel_rfl) (by kernel_rfl) rfl rfl (ltn hn rfl) (pure_assign rfl rfl) ?_
              refine JD_done (by kernel_rfl) ?_
              refine J_region ?_
              refine jl rfl rfl (ltn hn rfl) (pure_move rfl rfl) ?_
              refine jl rfl rfl (ltn hn rfl) (pure_add rfl rfl rfl (by omega)) ?_
              refine jl rfl rfl (ltn hn rfl) (pure_assign rfl rfl) ?_
              refine JL_nil ?_
              refine ⟨i + 1, ?_, ?_, ?_⟩
              · omega
              · omega
              ·
                refine Le.trans (Le_frz 30 rfl rfl) ?_
                refine Le_sub C _ _ ⟨rfl, ⟨(eqv rfl (congrArg L (by rw [take_gi (by omega), List.foldl_append]; exact ins_new hq hc (by intro hlt; simp_all <;> omega)))), ⟨(eqv rfl (vi (by omega))), trivial⟩⟩⟩ trivial rfl rfl
          ·
            refine JD_only 0 rfl (by kernel_rfl) rfl (@op_lit0 _ _ _ _ _ cI _ _ _ _ _ SlT.slk rfl rfl (ltn hn rfl) rfl) rfl ?_
            refine JD_only 4 rfl (by kernel_rfl) rfl (op_append_m SlT.slk rfl rfl (ltn hn rfl) rfl rfl (src_sl_m rfl) (by first | omega | (simp only [List.length_append, List.length_cons, List.length_nil, List.length_take, List.length_drop]; omega)) (by first | omega | (simp only [List.length_append, List.length_cons, List.length_nil, List.length_take, List.length_drop]; omega))) rfl ?_
            refine JD_only 10 rfl (by kernel_rfl) rfl (op_append_m SlT.slk rfl rfl (ltn hn rfl) rfl rfl (src_own_m rfl rfl) (by first | omega | (simp only [List.length_append, List.length_cons, List.length_nil, List.length_take, List.length_drop]; omega)) (by first | omega | (simp only [List.length_append, List.length_cons, List.length_nil, List.length_take, List.length_drop]; omega))) rfl ?_
            refine JD_only 14 rfl (by kernel_rfl) rfl (op_append_m SlT.slk rfl rfl (ltn hn rfl) rfl rfl (src_sl_m rfl) (by first | omega | (simp only [List.length_append, List.length_cons, List.length_nil, List.length_take, List.length_drop]; omega)) (by first | omega | (simp only [List.length_append, List.length_cons, List.length_nil, List.length_take, List.length_drop]; omega))) rfl ?_
            refine JD_still 15 rfl (by kernel_rfl) (by kernel_rfl) (by kernel_rfl) rfl rfl (ltn hn rfl) (pure_assign rfl rfl) ?_
            refine JD_done (by kernel_rfl) ?_
            refine J_region ?_
            refine jl rfl rfl (ltn hn rfl) (pure_move rfl rfl) ?_
            refine jl rfl rfl (ltn hn rfl) (pure_add rfl rfl rfl (by omega)) ?_
            refine jl rfl rfl (ltn hn rfl) (pure_assign rfl rfl) ?_
            refine JL_nil ?_
            refine ⟨i + 1, ?_, ?_, ?_⟩
            · omega
            · omega
            ·
              refine Le.trans (Le_frz 30 rfl rfl) ?_
              refine Le_sub C _ _ ⟨rfl, ⟨(eqv rfl (congrArg L (by rw [take_gi (by omega), List.foldl_append]; exact ins_new hq hc (by intro hlt; simp_all <;> omega)))), ⟨(eqv rfl (vi (by omega))), trivial⟩⟩⟩ trivial rfl rfl
    ·
      refine J_exit ?_
      refine J_seq ?_
      refine J_region ?_
      refine jl rfl rfl (ltn hn rfl) (pure_move rfl rfl) ?_
      refine jl rfl rfl (ltn hn rfl) (pure_assign rfl rfl) ?_
      refine JL_nil ?_
      refine J_ret ?_
      exact Fin_one rfl (Le_one rfl (congrArg L (by rw [take_all h1]; rfl)) rfl)
end Go.Proofs.YtmiijpobhajfmaaGreat.J
namespace Go.Proofs.YtmiijpobhajfmaaGreat.J
open Go Go.RowKit
set_option linter.unusedVariables false
set_option linter.unusedSimpArgs false

def start (i : Nat) (l : List Int) : Int := if 0 < i then gi l ((i : Int) - 1) else 0
def span (a : Int) (n : Nat) : List Int := (List.range (n - a.toNat)).map (fun j => a + (j : Nat))
def extL (n i : Nat) (l : List Int) : List (List Int) := (span (start i l) n).map (fun x => l ++ [x])
def cfgL (n : Nat) : Nat → List (List Int)
  | 0 => [[]]
  | i + 1 => (cfgL n i).flatMap (extL n i)
theorem span_len (a : Int) (n : Nat) : (span a n).length = n - a.toNat := by simp [span]
theorem span_gi {a : Int} {n q : Nat} (h : q < n - a.toNat) : gi (span a n) q = a + q := by
  rw [gi_nat]
  simp [span, List.getD, h]
theorem span_mem {a x : Int} {n : Nat} (h0 : 0 ≤ a) (h : x ∈ span a n) : a ≤ x ∧ x < n := by
  simp only [span, List.mem_map, List.mem_range] at h
  obtain ⟨j, hj, rfl⟩ := h
  omega
theorem start_bd {n i : Nat} {l : List Int} (hl : l.length = i) (hx : ∀ x ∈ l, 0 ≤ x ∧ x < n) : 0 ≤ start i l ∧ start i l ≤ n := by
  unfold start
  split
  · have := hx _ (gi_memI (l := l) (x := (i : Int) - 1) (by omega))
    omega
  · omega
theorem cfg_mem (n : Nat) : ∀ (i : Nat) (l : List Int), l ∈ cfgL n i → l.length = i ∧ ∀ x ∈ l, 0 ≤ x ∧ x < n
  | 0, l, h => by
    obtain rfl : l = [] := by simpa [cfgL] using h
    exact ⟨rfl, fun x hx => by cases hx⟩
  | i + 1, l, h => by
    simp only [cfgL, List.mem_flatMap, extL, List.mem_map] at h
    obtain ⟨l0, h0, x, hx, rfl⟩ := h
    obtain ⟨h1, h2⟩ := cfg_mem n i l0 h0
    have hb := start_bd h1 h2
    have hs := span_mem hb.1 hx
    refine ⟨by simp [h1], fun y hy => ?_⟩
    rcases List.mem_append.1 hy with hy | hy
    · exact h2 y hy
    · obtain rfl : y = x := by simpa using hy
      omega
theorem cfg_start {n i : Nat} {l : List Int} (h : l ∈ cfgL n i) : 0 ≤ start i l ∧ start i l ≤ n := start_bd (cfg_mem n i l h).1 (cfg_mem n i l h).2
theorem flat_len {α β : Type} (f : α → List β) (m : Nat) : ∀ (l : List α), (∀ x ∈ l, (f x).length ≤ m) → (l.flatMap f).length ≤ m * l.length
  | [], _ => by simp
  | a :: r, h => by
    have h1 := flat_len f m r (fun x hx => h x (List.mem_cons_of_mem _ hx))
    have h2 := h a List.mem_cons_self
    simp only [List.flatMap_cons, List.length_append, List.length_cons, Nat.mul_add, Nat.mul_one]
    omega
theorem ext_len {n : Nat} (hn : n ≤ 8) (i : Nat) (l : List Int) : (extL n i l).length ≤ 8 := by
  simp only [extL, List.length_map, span_len]
  omega
theorem ext_flat {n : Nat} (hn : n ≤ 8) (i j : Nat) (l : List (List Int)) : ((l.take j).flatMap (extL n i)).length ≤ 8 * j := by
  have h := flat_len (extL n i) 8 (l.take j) (fun x _ => ext_len hn i x)
  rw [List.length_take] at h
  omega
theorem cfg_len {n : Nat} (hn : n ≤ 8) : ∀ i, (cfgL n i).length ≤ 8 ^ i
  | 0 => by simp [cfgL]
  | i + 1 => by
    have h1 := cfg_len hn i
    have h2 := flat_len (extL n i) 8 (cfgL n i) (fun x _ => ext_len hn i x)
    simp only [cfgL, Nat.pow_succ]
    omega
theorem cfg_len3 {n i : Nat} (hn : n ≤ 8) (hi : i ≤ 3) : (cfgL n i).length ≤ 512 := by
  have h1 := cfg_len hn i
  have h2 : 8 ^ i ≤ 8 ^ 3 := Nat.pow_le_pow_right (by omega) hi
  omega
theorem flat_step {α β : Type} [Inhabited α] {l : List α} {f : α → List β} {j : Nat} (h : (j : Int) < l.length) : (l.take (j + 1)).flatMap f = (l.take j).flatMap f ++ f (gi l j) := by
  rw [take_gi (by omega), List.flatMap_append]
  simp

theorem Configs_spec (n k : Nat) (hn8 : n ≤ 8) (hk : k ≤ 3) : Spec Tryz.prog 112 [I (n : Int), I (k : Int)] (LL (cfgL n k)) [] := by
  refine Spec.intro (c := _) Tryz.func112 rfl (Nat.le_of_ble_eq_true rfl) (fun C hC hfx => ?_)
  have hn : C.n = 54 := hC
  refine (show J _ _ _ _ (⟨[(0, I (n : Int)), (1, I (k : Int))], []⟩ : AS) from ?_)
  refine J_seq ?_
  refine J_region ?_
  refine jl rfl rfl (ltn hn rfl) (pure_assign rfl rfl) ?_
  refine JL_nil ?_
  refine J_seq ?_
  refine J_region ?_
  refine jl_o rfl (@op_lit0 _ _ _ _ _ cI _ _ _ _ _ SlT.slk rfl rfl (ltn hn rfl) rfl) ?_
  refine JL_le (Le_frz 11 rfl rfl) ?_
  refine jl_o rfl (@op_lit1 _ _ _ _ _ cL _ _ _ _ _ _ _ SlT.slk rfl rfl (ltn hn rfl) rfl rfl rfl rfl rfl) ?_
  refine jl rfl rfl (ltn hn rfl) (pure_assign rfl rfl) ?_
  refine JL_nil ?_
  refine J_seq ?_
  refine J_seq ?_
  refine J_region ?_
  refine jl rfl rfl (ltn hn rfl) (pure_assign rfl rfl) ?_
  refine JL_nil ?_
  refine J_block ?_
  refine J_le (Le_frz 12 rfl rfl) ?_
  refine J_loop (X := Nat) (fun i => ⟨[(0, I (n : Int)), (1, I (k : Int)), (5, LL (cfgL n i)), (6, I (i : Nat))], []⟩) (fun i => i ≤ k) (fun i => k - i) 0 ?_ ?_ ?_
  · omega
  ·
    refine Le_sub C _ _ ⟨rfl, ⟨rfl, ⟨rfl, ⟨rfl, trivial⟩⟩⟩⟩ trivial rfl rfl
  ·
    intro i hi
    refine J_seq ?_
    refine J_seq ?_
    refine J_region ?_
    refine jl rfl rfl (ltn hn rfl) (pure_move rfl rfl) ?_
    refine jl rfl rfl (ltn hn rfl) (pure_move rfl rfl) ?_
    refine jl rfl rfl (ltn hn rfl) (pure_lss rfl rfl rfl) ?_
    refine JL_nil ?_
    refine J_cond_p rfl (fun h1 => ?_) (fun h1 => ?_)
    ·
      refine J_skip ?_
      refine J_seq ?_
      refine J_block ?_
      refine J_seq ?_
      refine J_region ?_
      refine jl_o rfl (@op_lit0 _ _ _ _ _ cL _ _ _ _ _ SlT.slk rfl rfl (ltn hn rfl) rfl) ?_
      refine jl rfl rfl (ltn hn rfl) (pure_assign rfl rfl) ?_
      refine JL_nil ?_
      refine J_seq ?_
      refine J_seq ?_
      refine J_region ?_
      refine jl rfl rfl (ltn hn rfl) (pure_assign rfl rfl) ?_
      refine JL_nil ?_
      refine J_block ?_
      have hcl := cfg_len3 hn8 (i := i) (by omega)
      refine J_loop (X := Nat) (fun j => ⟨[(0, I (n : Int)), (1, I (k : Int)), (5, LL (cfgL n i)), (6, I (i : Nat)), (7, .own 18 []), (8, I (j : Nat))], [(18, Ow 37 1 cL (((cfgL n i).take j).flatMap (extL n i)))]⟩) (fun j => j ≤ (cfgL n i).length) (fun j => (cfgL n i).length - j) 0 ?_ ?_ ?_
      · omega
      ·
        refine Le_sub C _ _ ⟨rfl, ⟨rfl, ⟨rfl, ⟨rfl, ⟨rfl, ⟨rfl, trivial⟩⟩⟩⟩⟩⟩ ⟨rfl, trivial⟩ rfl rfl
      ·
        intro j hj
        refine J_seq ?_
        refine J_seq ?_
        refine J_region ?_
        refine jl rfl rfl (ltn hn rfl) (pure_move rfl rfl) ?_
        refine jl rfl rfl (ltn hn rfl) (pure_move rfl rfl) ?_
        refine jl rfl rfl (ltn hn rfl) (p_len_m rfl rfl) ?_
        refine jl rfl rfl (ltn hn rfl) (pure_lss rfl rfl rfl) ?_
        refine JL_nil ?_
        refine J_cond_p rfl (fun h2 => ?_) (fun h2 => ?_)
        ·
          refine J_skip ?_
          refine J_seq ?_
          refine J_block ?_
          refine J_seq ?_
          refine J_region ?_
          refine jl rfl rfl (ltn hn rfl) (pure_assign rfl rfl) ?_
          refine JL_nil ?_
          refine J_seq ?_
          refine J_seq ?_
          refine J_region ?_
          refine jl rfl rfl (ltn hn rfl) (pure_move rfl rfl) ?_
          refine jl rfl rfl (ltn hn rfl) (pure_gtr rfl rfl rfl) ?_
          refine JL_nil ?_
          refine J_cond_p rfl (fun h3 => ?_) (fun h3 => ?_)
          ·
            refine J_region ?_
            refine jl rfl rfl (ltn hn rfl) (pure_move rfl rfl) ?_
            refine jl rfl rfl (ltn hn rfl) (pure_move rfl rfl) ?_
            refine jl rfl rfl (ltn hn rfl) (p_idx rfl rfl rfl (by omega) (mget (by omega))) ?_
            refine jl rfl rfl (ltn hn rfl) (p_ld rfl rfl rfl) ?_
            refine jl rfl rfl (ltn hn rfl) (pure_move rfl rfl) ?_
            refine jl rfl rfl (ltn hn rfl) (pure_sub rfl rfl rfl (by omega)) ?_
            refine jl rfl rfl (ltn hn rfl) (p_idx rfl rfl rfl (by have hm := cfg_mem n i _ (gi_mem h2); omega) (mget (by have hm := cfg_mem n i _ (gi_mem h2); omega))) ?_
            refine jl rfl rfl (ltn hn rfl) (p_ld rfl rfl rfl) ?_
            refine jl rfl rfl (ltn hn rfl) (pure_assign rfl rfl) ?_
            refine JL_nil ?_
            refine J_seq ?_
            refine J_region ?_
            refine jl rfl rfl (ltn hn rfl) (pure_move rfl rfl) ?_
            refine jl rfl rfl (ltn hn rfl) (pure_assign rfl rfl) ?_
            refine JL_nil ?_
            refine J_block ?_
            have hb := cfg_start (gi_mem h2)
            refine J_loop (X := Nat) (fun q => ⟨[(0, I (n : Int)), (1, I (k : Int)), (5, LL (cfgL n i)), (6, I (i : Nat)), (7, .own 18 []), (8, I (j : Nat)), (10, I ((start i (gi (cfgL n i) j)) + (q : Nat)))], [(18, Ow 37 1 cL (((cfgL n i).take j).flatMap (extL n i) ++ ((span (start i (gi (cfgL n i) j)) n).take q).map (fun x => gi (cfgL n i) j ++ [x])))]⟩) (fun q => q ≤ n - (start i (gi (cfgL n i) j)).toNat) (fun q => n - (start i (gi (cfgL n i) j)).toNat - q) 0 ?_ ?_ ?_
            · omega
            ·
              refine Le_sub C _ _ ⟨rfl, ⟨rfl, ⟨rfl, ⟨rfl, ⟨rfl, ⟨rfl, ⟨(eqv rfl (vi (by unfold start; split <;> omega))), trivial⟩⟩⟩⟩⟩⟩⟩ ⟨(eqv rfl (by simp)), trivial⟩ rfl rfl
            ·
              intro q hq
              refine J_seq ?_
              refine J_seq ?_
              refine J_region ?_
              refine jl rfl rfl (ltn hn rfl) (pure_move rfl rfl) ?_
              refine jl rfl rfl (ltn hn rfl) (pure_move rfl rfl) ?_
              refine jl rfl rfl (ltn hn rfl) (pure_lss rfl rfl rfl) ?_
              refine JL_nil ?_
              refine J_cond_p rfl (fun h4 => ?_) (fun h4 => ?_)
              ·
                refine J_skip ?_
                refine J_seq ?_
                refine J_block ?_
                refine J_region ?_
                refine jl rfl rfl (ltn hn rfl) (pure_move rfl rfl) ?_
                refine jl rfl rfl (ltn hn rfl) (pure_move rfl rfl) ?_
                refine jl rfl rfl (ltn hn rfl) (pure_move rfl rfl) ?_
                refine jl rfl rfl (ltn hn rfl) (p_idx rfl rfl rfl (by omega) (mget (by omega))) ?_
                refine jl rfl rfl (ltn hn rfl) (p_ld rfl rfl rfl) ?_
                refine jl_o rfl (@op_call _ _ _ _ _ _ [.tmp 45] _ _ _ _ _ (Own_spec _ (by have hm := cfg_mem n i _ (gi_mem h2); omega)) rfl Tryz.func78 rfl rfl rfl (ltn hn rfl) ⟨rfl, rfl, trivial⟩ rfl rfl) ?_
                refine jl rfl rfl (ltn hn rfl) (pure_move rfl rfl) ?_
                refine jl_o rfl (@op_lit1 _ _ _ _ _ cI _ _ _ _ _ _ _ SlT.slk rfl rfl (ltn hn rfl) rfl rfl rfl rfl rfl) ?_
                refine jl_o rfl (op_append_m SlT.slk rfl rfl (ltn hn rfl) rfl rfl (src_own_m rfl rfl) (by have hm := cfg_mem n i _ (gi_mem h2); simp only [List.length_append, List.length_cons, List.length_nil]; omega) (by have hm := cfg_mem n i _ (gi_mem h2); simp only [List.length_append, List.length_cons, List.length_nil]; omega)) ?_
                refine JL_le (Le_frz 46 rfl rfl) ?_
                refine jl_o rfl (@op_lit1 _ _ _ _ _ cL _ _ _ _ _ _ _ SlT.slk rfl rfl (ltn hn rfl) rfl rfl rfl rfl rfl) ?_
                refine jl_o rfl (op_append_m SlT.slk rfl rfl (ltn hn rfl) rfl rfl (src_own_m rfl rfl) (by have hf := ext_flat hn8 i j (cfgL n i); have hcl := cfg_len3 hn8 (i := i) (by omega); simp only [List.length_append, List.length_cons, List.length_nil, List.length_map, List.length_take, span_len]; omega) (by have hf := ext_flat hn8 i j (cfgL n i); have hcl := cfg_len3 hn8 (i := i) (by omega); simp only [List.length_append, List.length_cons, List.length_nil, List.length_map, List.length_take, span_len]; omega)) ?_
                refine jl rfl rfl (ltn hn rfl) (pure_assign rfl rfl) ?_
                refine JL_nil ?_
                refine J_region ?_
                refine jl rfl rfl (ltn hn rfl) (pure_move rfl rfl) ?_
                refine jl rfl rfl (ltn hn rfl) (pure_add rfl rfl rfl (by have hb := cfg_start (gi_mem h2); omega)) ?_
                refine jl rfl rfl (ltn hn rfl) (pure_assign rfl rfl) ?_
                refine JL_nil ?_
                refine ⟨q + 1, ?_, ?_, ?_⟩
                · omega
                · omega
                ·
                  refine Le_sub C _ _ ⟨rfl, ⟨rfl, ⟨rfl, ⟨rfl, ⟨rfl, ⟨rfl, ⟨(eqv rfl (vi (by omega))), trivial⟩⟩⟩⟩⟩⟩⟩ ⟨(eqv rfl (by rw [take_gi (by rw [span_len]; omega), List.map_append, span_gi (by omega), List.append_assoc]; rfl)), trivial⟩ rfl rfl
              ·
                refine J_exit ?_
                refine J_region ?_
                refine jl rfl rfl (ltn hn rfl) (pure_move rfl rfl) ?_
                refine jl rfl rfl (ltn hn rfl) (pure_add rfl rfl rfl (by omega)) ?_
                refine jl rfl rfl (ltn hn rfl) (pure_assign rfl rfl) ?_
                refine JL_nil ?_
                have hb := cfg_start (gi_mem h2)
                refine ⟨j + 1, ?_, ?_, ?_⟩
                · omega
                · omega
                ·
                  refine Le_sub C _ _ ⟨rfl, ⟨rfl, ⟨rfl, ⟨rfl, ⟨rfl, ⟨(eqv rfl (vi (by omega))), trivial⟩⟩⟩⟩⟩⟩ ⟨(eqv rfl (by rw [flat_step h2, List.take_of_length_le (i := q) (by rw [span_len]; omega)]; rfl)), trivial⟩ rfl rfl
          ·
            refine J_skip ?_
            refine J_seq ?_
            refine J_region ?_
            refine jl rfl rfl (ltn hn rfl) (pure_move rfl rfl) ?_
            refine jl rfl rfl (ltn hn rfl) (pure_assign rfl rfl) ?_
            refine JL_nil ?_
            refine J_block ?_
            have hb := cfg_start (gi_mem h2)
            refine J_loop (X := Nat) (fun q => ⟨[(0, I (n : Int)), (1, I (k : Int)), (5, LL (cfgL n i)), (6, I (i : Nat)), (7, .own 18 []), (8, I (j : Nat)), (10, I ((start i (gi (cfgL n i) j)) + (q : Nat)))], [(18, Ow 37 1 cL (((cfgL n i).take j).flatMap (extL n i) ++ ((span (start i (gi (cfgL n i) j)) n).take q).map (fun x => gi (cfgL n i) j ++ [x])))]⟩) (fun q => q ≤ n - (start i (gi (cfgL n i) j)).toNat) (fun q => n - (start i (gi (cfgL n i) j)).toNat - q) 0 ?_ ?_ ?_
            · omega
            ·
              refine Le_sub C _ _ ⟨rfl, ⟨rfl, ⟨rfl, ⟨rfl, ⟨rfl, ⟨rfl, ⟨(eqv rfl (vi (by unfold start; split <;> omega))), trivial⟩⟩⟩⟩⟩⟩⟩ ⟨(eqv rfl (by simp)), trivial⟩ rfl rfl
            ·
              intro q hq
              refine J_seq ?_
              refine J_seq ?_
              refine J_region ?_
              refine jl rfl rfl (ltn hn rfl) (pure_move rfl rfl) ?_
              refine jl rfl rfl (ltn hn rfl) (pure_move rfl rfl) ?_
              refine jl rfl rfl (ltn hn rfl) (pure_lss rfl rfl rfl) ?_
              refine JL_nil ?_
              refine J_cond_p rfl (fun h5 => ?_) (fun h5 => ?_)
              ·
                refine J_skip ?_
                refine J_seq ?_
                refine J_block ?_
                refine J_region ?_
                refine jl rfl rfl (ltn hn rfl) (pure_move rfl rfl) ?_
                refine jl rfl rfl (ltn hn rfl) (pure_move rfl rfl) ?_
                refine jl rfl rfl (ltn hn rfl) (pure_move rfl rfl) ?_
                refine jl rfl rfl (ltn hn rfl) (p_idx rfl rfl rfl (by omega) (mget (by omega))) ?_
                refine jl rfl rfl (ltn hn rfl) (p_ld rfl rfl rfl) ?_
                refine jl_o rfl (@op_call _ _ _ _ _ _ [.tmp 45] _ _ _ _ _ (Own_spec _ (by have hm := cfg_mem n i _ (gi_mem h2); omega)) rfl Tryz.func78 rfl rfl rfl (ltn hn rfl) ⟨rfl, rfl, trivial⟩ rfl rfl) ?_
                refine jl rfl rfl (ltn hn rfl) (pure_move rfl rfl) ?_
                refine jl_o rfl (@op_lit1 _ _ _ _ _ cI _ _ _ _ _ _ _ SlT.slk rfl rfl (ltn hn rfl) rfl rfl rfl rfl rfl) ?_
                refine jl_o rfl (op_append_m SlT.slk rfl rfl (ltn hn rfl) rfl rfl (src_own_m rfl rfl) (by have hm := cfg_mem n i _ (gi_mem h2); simp only [List.length_append, List.length_cons, List.length_nil]; omega) (by have hm := cfg_mem n i _ (gi_mem h2); simp only [List.length_append, List.length_cons, List.length_nil]; omega)) ?_
                refine JL_le (Le_frz 46 rfl rfl) ?_
                refine jl_o rfl (@op_lit1 _ _ _ _ _ cL _ _ _ _ _ _ _ SlT.slk rfl rfl (ltn hn rfl) rfl rfl rfl rfl rfl) ?_
                refine jl_o rfl (op_append_m SlT.slk rfl rfl (ltn hn rfl) rfl rfl (src_own_m rfl rfl) (by have hf := ext_flat hn8 i j (cfgL n i); have hcl := cfg_len3 hn8 (i := i) (by omega); simp only [List.length_append, List.length_cons, List.length_nil, List.length_map, List.length_take, span_len]; omega) (by have hf := ext_flat hn8 i j (cfgL n i); have hcl := cfg_len3 hn8 (i := i) (by omega); simp only [List.length_append, List.length_cons, List.length_nil, List.length_map, List.length_take, span_len]; omega)) ?_
                refine jl rfl rfl (ltn hn rfl) (pure_assign rfl rfl) ?_
                refine JL_nil ?_
                refine J_region ?_
                refine jl rfl rfl (ltn hn rfl) (pure_move rfl rfl) ?_
                refine jl rfl rfl (ltn hn rfl) (pure_add rfl rfl rfl (by have hb := cfg_start (gi_mem h2); omega)) ?_
                refine jl rfl rfl (ltn hn rfl) (pure_assign rfl rfl) ?_
                refine JL_nil ?_
                refine ⟨q + 1, ?_, ?_, ?_⟩
                · omega
                · omega
                ·
                  refine Le_sub C _ _ ⟨rfl, ⟨rfl, ⟨rfl, ⟨rfl, ⟨rfl, ⟨rfl, ⟨(eqv rfl (vi (by omega))), trivial⟩⟩⟩⟩⟩⟩⟩ ⟨(eqv rfl (by rw [take_gi (by rw [span_len]; omega), List.map_append, span_gi (by omega), List.append_assoc]; rfl)), trivial⟩ rfl rfl
              ·
                refine J_exit ?_
                refine J_region ?_
                refine jl rfl rfl (ltn hn rfl) (pure_move rfl rfl) ?_
                refine jl rfl rfl (ltn hn rfl) (pure_add rfl rfl rfl (by omega)) ?_
                refine jl rfl rfl (ltn hn rfl) (pure_assign rfl rfl) ?_
                refine JL_nil ?_
                have hb := cfg_start (gi_mem h2)
                refine ⟨j + 1, ?_, ?_, ?_⟩
                · omega
                · omega
                ·
                  refine Le_sub C _ _ ⟨rfl, ⟨rfl, ⟨rfl, ⟨rfl, ⟨rfl, ⟨(eqv rfl (vi (by omega))), trivial⟩⟩⟩⟩⟩⟩ ⟨(eqv rfl (by rw [flat_step h2, List.take_of_length_le (i := q) (by rw [span_len]; omega)]; rfl)), trivial⟩ rfl rfl
        ·
          refine J_exit ?_
          refine J_region ?_
          refine jl rfl rfl (ltn hn rfl) (pure_move rfl rfl) ?_
          refine jl rfl rfl (ltn hn rfl) (pure_assign rfl rfl) ?_
          refine JL_nil ?_
          refine J_region ?_
          refine jl rfl rfl (ltn hn rfl) (pure_move rfl rfl) ?_
          refine jl rfl rfl (ltn hn rfl) (pure_add rfl rfl rfl (by omega)) ?_
          refine jl rfl rfl (ltn hn rfl) (pure_assign rfl rfl) ?_
          refine JL_nil ?_
          refine ⟨i + 1, ?_, ?_, ?_⟩
          · omega
          · omega
          ·
            refine Le.trans (Le_frz 18 rfl rfl) ?_
            refine Le_sub C _ _ ⟨rfl, ⟨rfl, ⟨(eqv rfl (congrArg LL (by rw [take_all (l := cfgL n i) (i := j) (by omega)]; rfl))), ⟨(eqv rfl (vi (by omega))), trivial⟩⟩⟩⟩ trivial rfl rfl
    ·
      refine J_exit ?_
      refine J_seq ?_
      refine J_region ?_
      refine jl rfl rfl (ltn hn rfl) (pure_move rfl rfl) ?_
      refine jl rfl rfl (ltn hn rfl) (pure_assign rfl rfl) ?_
      refine JL_nil ?_
      refine J_ret ?_
      obtain rfl : i = k := by omega
      exact Fin_one rfl (Le_one rfl rfl rfl)
end Go.Proofs.YtmiijpobhajfmaaGreat.J
