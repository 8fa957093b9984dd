/- Parts of a small logic over the program, and walks in it. No statement of the seat is proved in this text. -/
import Derived.Test.YtmiijpobhajfmaaGreatMH
import Derived.Test.YtmiijpobhajfmaaGreatMD
namespace Go.Proofs.YtmiijpobhajfmaaGreat.J
open Go Go.RowKit
set_option linter.unusedVariables false
set_option linter.unusedSimpArgs false

/-- The first place at which something holds, or -1. -/
def idxL {α : Type} (p : α → Bool) (l : List α) : Int := match l.findIdx? p with
  | some i => (i : Int)
  | none => -1
theorem idx_hit {α : Type} [Inhabited α] {p : α → Bool} {l : List α} {i : Nat} (h : (i : Int) < l.length) (hc : (l.take i).all (fun x => !p x) = true) (hp : p (gi l i) = true) : (i : Int) = idxL p l := by
  have : l.findIdx? p = some i := by
    rw [List.findIdx?_eq_some_iff_getElem]
    refine ⟨by omega, ?_, fun j hj => ?_⟩
    · have e : gi l (i : Int) = l[i]'(by omega) := by simp [gi, List.getD, show i < l.length by omega]
      rw [← e]; exact hp
    · have h1 := List.all_eq_true.1 hc (l[j]'(by omega)) (by rw [List.mem_take_iff_getElem]; exact ⟨j, by omega, rfl⟩)
      simpa using h1
  simp [idxL, this]
theorem idx_miss {α : Type} {p : α → Bool} {l : List α} {i : Nat} (h : ¬ (i : Int) < l.length) (hc : (l.take i).all (fun x => !p x) = true) : (-1 : Int) = idxL p l := by
  rw [List.take_of_length_le (by omega)] at hc
  have : l.findIdx? p = none := by
    rw [List.findIdx?_eq_none_iff]
    intro x hx
    simpa using List.all_eq_true.1 hc x hx
  simp [idxL, this]
theorem all_step' {α : Type} [Inhabited α] {l : List α} {p : α → Bool} {i : Nat} (h : (i : Int) < l.length) (hc : (l.take i).all p = true) (hn : p (gi l i) = true) : (l.take (i + 1)).all p = true := by
  rw [take_gi (by omega), List.all_append, hc]
  simp [hn]
theorem idxL_any {α : Type} (p : α → Bool) (l : List α) : decide (0 ≤ idxL p l) = l.any p := by
  unfold idxL
  cases h : l.findIdx? p with
  | none =>
    rw [List.findIdx?_eq_none_iff] at h
    rw [Bool.eq_iff_iff]
    simp only [decide_eq_true_eq, List.any_eq_true]
    constructor
    · intro h1; omega
    · rintro ⟨x, hx, hp⟩; rw [h x hx] at hp; cases hp
  | some i =>
    rw [List.findIdx?_eq_some_iff_getElem] at h
    obtain ⟨h1, h2, _⟩ := h
    rw [Bool.eq_iff_iff]
    simp only [decide_eq_true_eq, List.any_eq_true]
    exact ⟨fun _ => ⟨l[i], List.getElem_mem _, h2⟩, fun _ => by omega⟩
def maxL (l : List Int) : Int := l.foldl (fun m x => if m < x then x else m) (gi l 0)
def sortedB (l : List Int) : Bool := (List.range (l.length - 1)).all (fun i => decide (gi l (i : Int) ≤ gi l ((i : Int) + 1)))
theorem any_has (l : List Int) (v : Int) : l.any (fun x => decide (x = v)) = l.contains v := by
  rw [Bool.eq_iff_iff]
  simp
theorem sorted_step {l : List Int} {i : Nat} (h1 : 0 < (l.length : Int) - 1 - (i : Nat)) (h2 : decide (gi l ((l.length : Int) - 1 - (i : Nat)) < gi l ((l.length : Int) - 1 - (i : Nat) - 1)) = false) (hc : ∀ j : Nat, l.length - 1 - i ≤ j → j < l.length - 1 → gi l (j : Int) ≤ gi l ((j : Int) + 1)) :
    ∀ j : Nat, l.length - 1 - (i + 1) ≤ j → j < l.length - 1 → gi l (j : Int) ≤ gi l ((j : Int) + 1) := by
  intro j h3 h4
  have h2 := of_decide_eq_false h2
  by_cases e : j = l.length - 1 - (i + 1)
  · have e1 : (l.length : Int) - 1 - (i : Nat) - 1 = (j : Int) := by omega
    have e2 : (l.length : Int) - 1 - (i : Nat) = (j : Int) + 1 := by omega
    rw [e1, e2] at h2
    omega
  · exact hc j (by omega) h4
theorem sorted_no {l : List Int} {i : Nat} (h1 : 0 < (l.length : Int) - 1 - (i : Nat)) (h2 : decide (gi l ((l.length : Int) - 1 - (i : Nat)) < gi l ((l.length : Int) - 1 - (i : Nat) - 1)) = true) : false = sortedB l := by
  have h2 := of_decide_eq_true h2
  symm
  unfold sortedB
  rw [List.all_eq_false]
  refine ⟨l.length - 1 - (i + 1), by simp; omega, ?_⟩
  have e1 : (l.length : Int) - 1 - (i : Nat) - 1 = ((l.length - 1 - (i + 1) : Nat) : Int) := by omega
  have e2 : (l.length : Int) - 1 - (i : Nat) = ((l.length - 1 - (i + 1) : Nat) : Int) + 1 := by omega
  rw [e1, e2] at h2
  simp only [decide_eq_true_eq]
  omega
theorem sorted_yes {l : List Int} {i : Nat} (h1 : ¬ 0 < (l.length : Int) - 1 - (i : Nat)) (hc : ∀ j : Nat, l.length - 1 - i ≤ j → j < l.length - 1 → gi l (j : Int) ≤ gi l ((j : Int) + 1)) : true = sortedB l := by
  symm
  unfold sortedB
  rw [List.all_eq_true]
  intro j hj
  simp only [decide_eq_true_eq]
  simp at hj
  exact hc j (by omega) (by omega)
abbrev U (n : Int) : AV := .val (.int .u64 n)
theorem eq_take {a b : List Int} {i : Nat} (h1 : a.length = b.length) (h : a.take i = b.take i) (hi : ¬ (i : Int) < a.length) : decide (a = b) = true := by
  rw [List.take_of_length_le (by omega), List.take_of_length_le (by omega)] at h
  simpa using h
theorem ne_gi {a b : List Int} {i : Nat} (h : gi a (i : Int) ≠ gi b (i : Int)) : decide (a = b) = false := by
  simp only [decide_eq_false_iff_not]
  rintro rfl
  exact h rfl
theorem rep_grow {n m : Nat} {v : Int} (h1 : 1 ≤ m) (h : m ≤ n) : (List.replicate m v ++ List.replicate (n - m) 0).take m ++ ((((List.replicate m v ++ List.replicate (n - m) 0).take m).drop 0).take (min m (n - m))) ++ (List.replicate m v ++ List.replicate (n - m) 0).drop (m + min m (n - m)) = List.replicate (m + min m (n - m)) v ++ List.replicate (n - (m + min m (n - m))) (0 : Int) := by
  apply List.ext_getElem?
  intro i
  have e1 : (List.replicate m v ++ List.replicate (n - m) (0 : Int)).take m = List.replicate m v := by
    rw [List.take_append_of_le_length (by simp)]; simp
  rw [e1, List.drop_zero, List.take_replicate, List.drop_append]
  simp only [List.length_replicate, List.drop_replicate]
  rw [show m - (m + min m (n - m)) = 0 by omega, List.replicate_zero, List.nil_append, show min (min m (n - m)) m = min m (n - m) by omega, show n - m - (m + min m (n - m) - m) = n - (m + min m (n - m)) by omega, List.replicate_append_replicate]

theorem Index_spec (l : List Int) (v : Int) (hl : l.length < 2^40) : Spec Tryz.prog 120 [L l, I v] (I (idxL (fun x => decide (x = v)) l)) [] := by
  refine Spec.intro (c := _) Tryz.func120 rfl (Nat.le_of_ble_eq_true rfl) (fun C hC hfx => ?_)
  have hn : C.n = 19 := hC
  refine (show J _ _ _ _ (⟨[(0, L l), (1, I v)], []⟩ : AS) from ?_)
  refine J_seq ?_
  refine J_region ?_
  refine jl rfl rfl (ltn hn rfl) (pure_assign rfl rfl) ?_
  refine JL_nil ?_
  refine J_seq ?_
  refine J_seq ?_
  refine J_region ?_
  refine jl rfl rfl (ltn hn rfl) (pure_move rfl rfl) ?_
  refine jl rfl rfl (ltn hn rfl) (p_len_m rfl rfl) ?_
  refine jl rfl rfl (ltn hn rfl) (pure_move rfl rfl) ?_
  refine JL_nil ?_
  refine J_block ?_
  refine J_loop (X := Nat) (fun i => ⟨[(0, L l), (1, I v), (7, I (l.length : Int)), (8, I (i : Nat))], []⟩) (fun i => i ≤ l.length ∧ (l.take i).all (fun x => !decide (x = v)) = true) (fun i => l.length - i) 0 ?_ ?_ ?_
  · exact ⟨by omega, by simp⟩
  ·
    refine Le_sub C _ _ ⟨rfl, ⟨rfl, ⟨rfl, ⟨rfl, trivial⟩⟩⟩⟩ trivial rfl rfl
  ·
    intro i hR
    obtain ⟨hi, hc⟩ := hR
    refine J_seq ?_
    refine J_region ?_
    refine jl rfl rfl (ltn hn rfl) (pure_lss rfl rfl rfl) ?_
    refine JL_nil ?_
    refine J_seq ?_
    refine J_cond_p rfl (fun h1 => ?_) (fun h1 => ?_)
    ·
      refine J_skip ?_
      refine J_seq ?_
      refine J_block ?_
      refine J_seq ?_
      refine J_region ?_
      refine jl rfl rfl (ltn hn rfl) (pure_move rfl rfl) ?_
      refine jl rfl rfl (ltn hn rfl) (pure_assign rfl rfl) ?_
      refine JL_nil ?_
      refine J_seq ?_
      refine J_region ?_
      refine jl rfl rfl (ltn hn rfl) (pure_move rfl rfl) ?_
      refine jl rfl rfl (ltn hn rfl) (pure_move rfl rfl) ?_
      refine jl rfl rfl (ltn hn rfl) (pure_move rfl rfl) ?_
      refine jl rfl rfl (ltn hn rfl) (p_idx rfl rfl rfl (by omega) (mget (by omega))) ?_
      refine jl rfl rfl (ltn hn rfl) (p_ld rfl rfl rfl) ?_
      refine jl rfl rfl (ltn hn rfl) (pure_eql rfl rfl rfl) ?_
      refine JL_nil ?_
      refine J_cond_p rfl (fun h2 => ?_) (fun h2 => ?_)
      ·
        refine J_seq ?_
        refine J_region ?_
        refine jl rfl rfl (ltn hn rfl) (pure_move rfl rfl) ?_
        refine jl rfl rfl (ltn hn rfl) (pure_assign rfl rfl) ?_
        refine JL_nil ?_
        refine J_ret ?_
        exact Fin_one rfl (Le_one rfl (vi (by exact idx_hit h1 hc (by simp; omega))) rfl)
      ·
        refine J_skip ?_
        refine J_region ?_
        refine jl rfl rfl (ltn hn rfl) (pure_add rfl rfl rfl (by omega)) ?_
        refine jl rfl rfl (ltn hn rfl) (pure_move rfl rfl) ?_
        refine JL_nil ?_
        refine ⟨i + 1, ?_, ?_, ?_⟩
        · exact ⟨by omega, all_step' h1 hc (by simp; omega)⟩
        · omega
        ·
          refine Le_sub C _ _ ⟨rfl, ⟨rfl, ⟨rfl, ⟨(eqv rfl (vi (by omega))), trivial⟩⟩⟩⟩ trivial rfl rfl
    ·
      refine J_exit ?_
      refine J_seq ?_
      refine J_region ?_
      refine jl rfl rfl (ltn hn rfl) (pure_assign rfl rfl) ?_
      refine JL_nil ?_
      refine J_ret ?_
      exact Fin_one rfl (Le_one rfl (vi (by exact idx_miss h1 hc)) rfl)
theorem Contains_spec (l : List Int) (v : Int) (hl : l.length < 2^40) : Spec Tryz.prog 74 [L l, I v] (B (l.contains v)) [] := by
  refine Spec.intro (c := _) Tryz.func74 rfl (Nat.le_of_ble_eq_true rfl) (fun C hC hfx => ?_)
  have hn : C.n = 9 := hC
  refine (show J _ _ _ _ (⟨[(0, L l), (1, I v)], []⟩ : AS) from ?_)
  refine J_seq ?_
  refine J_region ?_
  refine jl rfl rfl (ltn hn rfl) (pure_assign rfl rfl) ?_
  refine JL_nil ?_
  refine J_seq ?_
  refine J_region ?_
  refine jl rfl rfl (ltn hn rfl) (pure_move rfl rfl) ?_
  refine jl rfl rfl (ltn hn rfl) (pure_move rfl rfl) ?_
  refine jl_o rfl (@op_call _ _ _ _ _ _ [.tmp 5, .tmp 6] _ _ _ _ _ (Index_spec _ _ (by omega)) rfl Tryz.func120 rfl rfl rfl (ltn hn rfl) ⟨rfl, rfl, ⟨rfl, rfl, trivial⟩⟩ rfl rfl) ?_
  refine jl rfl rfl (ltn hn rfl) (pure_geq rfl rfl rfl) ?_
  refine jl rfl rfl (ltn hn rfl) (pure_assign rfl rfl) ?_
  refine JL_nil ?_
  refine J_ret ?_
  exact Fin_one rfl (Le_one rfl (vb (by rw [idxL_any, any_has])) rfl)
theorem EqualL_spec (a b : List Int) (ha : a.length < 2^40) (hb : b.length < 2^40) : Spec Tryz.prog 97 [L a, L b] (B (decide (a = b))) [] := by
  refine Spec.intro (c := _) Tryz.func97 rfl (Nat.le_of_ble_eq_true rfl) (fun C hC hfx => ?_)
  have hn : C.n = 26 := hC
  refine (show J _ _ _ _ (⟨[(0, L a), (1, L b)], []⟩ : AS) from ?_)
  refine J_seq ?_
  refine J_region ?_
  refine jl rfl rfl (ltn hn rfl) (pure_assign rfl rfl) ?_
  refine JL_nil ?_
  refine J_seq ?_
  refine J_seq ?_
  refine J_region ?_
  refine jl rfl rfl (ltn hn rfl) (pure_move rfl rfl) ?_
  refine jl rfl rfl (ltn hn rfl) (p_len_m rfl rfl) ?_
  refine jl rfl rfl (ltn hn rfl) (pure_move rfl rfl) ?_
  refine jl rfl rfl (ltn hn rfl) (p_len_m rfl rfl) ?_
  refine jl rfl rfl (ltn hn rfl) (pure_neq rfl rfl rfl) ?_
  refine JL_nil ?_
  refine J_cond_p rfl (fun h1 => ?_) (fun h1 => ?_)
  ·
    refine J_seq ?_
    refine J_region ?_
    refine jl rfl rfl (ltn hn rfl) (pure_assign rfl rfl) ?_
    refine JL_nil ?_
    refine J_ret ?_
    exact Fin_one rfl (Le_one rfl (vb (by symm; simp only [decide_eq_false_iff_not]; rintro rfl; exact h1 rfl)) rfl)
  ·
    refine J_skip ?_
    refine J_seq ?_
    refine J_seq ?_
    refine J_region ?_
    refine jl rfl rfl (ltn hn rfl) (pure_move rfl rfl) ?_
    refine jl rfl rfl (ltn hn rfl) (p_len_m rfl rfl) ?_
    refine jl rfl rfl (ltn hn rfl) (pure_move rfl rfl) ?_
    refine JL_nil ?_
    refine J_block ?_
    have hlen : a.length = b.length := by omega
    refine J_loop (X := Nat) (fun i => ⟨[(0, L a), (1, L b), (12, I (a.length : Int)), (13, I (i : Nat))], []⟩) (fun i => i ≤ a.length ∧ a.take i = b.take i) (fun i => a.length - i) 0 ?_ ?_ ?_
    · exact ⟨by omega, by simp⟩
    ·
      refine Le_sub C _ _ ⟨rfl, ⟨rfl, ⟨rfl, ⟨rfl, trivial⟩⟩⟩⟩ trivial rfl rfl
    ·
      intro i hR
      obtain ⟨hi, hc⟩ := hR
      refine J_seq ?_
      refine J_region ?_
      refine jl rfl rfl (ltn hn rfl) (pure_lss rfl rfl rfl) ?_
      refine JL_nil ?_
      refine J_seq ?_
      refine J_cond_p rfl (fun h2 => ?_) (fun h2 => ?_)
      ·
        refine J_skip ?_
        refine J_seq ?_
        refine J_block ?_
        refine J_seq ?_
        refine J_region ?_
        refine jl rfl rfl (ltn hn rfl) (pure_move rfl rfl) ?_
        refine jl rfl rfl (ltn hn rfl) (pure_assign rfl rfl) ?_
        refine JL_nil ?_
        refine J_seq ?_
        refine J_draw follows_mixed (by kernel_rfl) ?_
        refine jq rfl rfl (ltn hn rfl) (pure_move rfl rfl) ?_
        refine jq rfl rfl (ltn hn rfl) (pure_move rfl rfl) ?_
        refine jq rfl rfl (ltn hn rfl) (p_idx rfl rfl rfl (by omega) (mget (by omega))) ?_
        refine jq rfl rfl (ltn hn rfl) (p_ld rfl rfl rfl) ?_
        refine jq rfl rfl (ltn hn rfl) (pure_move rfl rfl) ?_
        refine jq rfl rfl (ltn hn rfl) (pure_move rfl rfl) ?_
        refine jq rfl rfl (ltn hn rfl) (p_idx rfl rfl rfl (by omega) (mget (by omega))) ?_
        refine jq rfl rfl (ltn hn rfl) (p_ld rfl rfl rfl) ?_
        refine jq rfl rfl (ltn hn rfl) (pure_neq rfl rfl rfl) ?_
        refine JQ_nil ?_
        refine J_cond_p rfl (fun h3 => ?_) (fun h3 => ?_)
        ·
          refine J_seq ?_
          refine J_region ?_
          refine jl rfl rfl (ltn hn rfl) (pure_assign rfl rfl) ?_
          refine JL_nil ?_
          refine J_ret ?_
          exact Fin_one rfl (Le_one rfl (vb (by exact (ne_gi h3).symm)) rfl)
        ·
          refine J_skip ?_
          refine J_region ?_
          refine jl rfl rfl (ltn hn rfl) (pure_add rfl rfl rfl (by omega)) ?_
          refine jl rfl rfl (ltn hn rfl) (pure_move rfl rfl) ?_
          refine JL_nil ?_
          refine ⟨i + 1, ?_, ?_, ?_⟩
          · exact ⟨by omega, by rw [take_gi (by omega), take_gi (by omega), hc, Decidable.not_not.1 h3]⟩
          · omega
          ·
            refine Le_sub C _ _ ⟨rfl, ⟨rfl, ⟨rfl, ⟨(eqv rfl (vi (by omega))), trivial⟩⟩⟩⟩ trivial rfl rfl
      ·
        refine J_exit ?_
        refine J_seq ?_
        refine J_region ?_
        refine jl rfl rfl (ltn hn rfl) (pure_assign rfl rfl) ?_
        refine JL_nil ?_
        refine J_ret ?_
        exact Fin_one rfl (Le_one rfl (vb (by exact (eq_take hlen hc h2).symm)) rfl)
theorem LessI_spec (a b : Int) : Spec Tryz.prog 138 [I a, I b] (B (decide (a < b))) [] := by
  refine Spec.intro (c := _) Tryz.func138 rfl (Nat.le_of_ble_eq_true rfl) (fun C hC hfx => ?_)
  have hn : C.n = 17 := hC
  refine (show J _ _ _ _ (⟨[(0, I a), (1, I b)], []⟩ : AS) from ?_)
  refine J_seq ?_
  refine J_region ?_
  refine jl rfl rfl (ltn hn rfl) (pure_assign rfl rfl) ?_
  refine JL_nil ?_
  refine J_seq ?_
  refine J_region ?_
  refine jl rfl rfl (ltn hn rfl) (pure_move rfl rfl) ?_
  refine jl_o rfl (@op_call _ _ _ _ _ _ [.tmp 5] _ _ _ _ _ (NaN_spec _) rfl Tryz.func147 rfl rfl rfl (ltn hn rfl) ⟨rfl, rfl, trivial⟩ rfl rfl) ?_
  refine jl rfl rfl (ltn hn rfl) (pure_move rfl rfl) ?_
  refine jl_s rfl rfl (ltn hn rfl) ?_
  refine jl_s rfl rfl (ltn hn rfl) ?_
  refine jl_s rfl rfl (ltn hn rfl) ?_
  refine jl rfl rfl (ltn hn rfl) (pure_pick_f rfl rfl rfl) ?_
  refine jl rfl rfl (ltn hn rfl) (pure_move rfl rfl) ?_
  refine jl rfl rfl (ltn hn rfl) (pure_move rfl rfl) ?_
  refine jl rfl rfl (ltn hn rfl) (pure_move rfl rfl) ?_
  refine jl rfl rfl (ltn hn rfl) (pure_lss rfl rfl rfl) ?_
  refine jl rfl rfl (ltn hn rfl) (pure_pick_f rfl rfl rfl) ?_
  refine jl rfl rfl (ltn hn rfl) (pure_assign rfl rfl) ?_
  refine JL_nil ?_
  refine J_ret ?_
  exact Fin_one rfl (Le_one rfl (vb (by rfl)) rfl)
theorem IsSorted_spec (l : List Int) (hl : l.length < 2^40) : Spec Tryz.prog 118 [L l] (B (sortedB l)) [] := by
  refine Spec.intro (c := _) Tryz.func118 rfl (Nat.le_of_ble_eq_true rfl) (fun C hC hfx => ?_)
  have hn : C.n = 21 := hC
  refine (show J _ _ _ _ (⟨[(0, L l)], []⟩ : AS) from ?_)
  refine J_seq ?_
  refine J_region ?_
  refine jl rfl rfl (ltn hn rfl) (pure_assign rfl rfl) ?_
  refine JL_nil ?_
  refine J_seq ?_
  refine J_seq ?_
  refine J_region ?_
  refine jl rfl rfl (ltn hn rfl) (pure_move rfl rfl) ?_
  refine jl rfl rfl (ltn hn rfl) (p_len_m rfl rfl) ?_
  refine jl rfl rfl (ltn hn rfl) (pure_sub rfl rfl rfl (by omega)) ?_
  refine jl rfl rfl (ltn hn rfl) (pure_assign rfl rfl) ?_
  refine JL_nil ?_
  refine J_block ?_
  refine J_loop (X := Nat) (fun i => ⟨[(0, L l), (3, I ((l.length : Int) - 1 - (i : Nat)))], []⟩) (fun i => i ≤ l.length ∧ ∀ j : Nat, l.length - 1 - i ≤ j → j < l.length - 1 → gi l (j : Int) ≤ gi l ((j : Int) + 1)) (fun i => l.length - i) 0 ?_ ?_ ?_
  · exact ⟨by omega, fun j h1 h2 => by omega⟩
  ·
    refine Le_sub C _ _ ⟨rfl, ⟨(eqv rfl (vi (by omega))), trivial⟩⟩ trivial rfl rfl
  ·
    intro i hR
    obtain ⟨hi, hc⟩ := hR
    refine J_seq ?_
    refine J_seq ?_
    refine J_region ?_
    refine jl rfl rfl (ltn hn rfl) (pure_move rfl rfl) ?_
    refine jl rfl rfl (ltn hn rfl) (pure_gtr rfl rfl rfl) ?_
    refine JL_nil ?_
    refine J_cond_p rfl (fun h1 => ?_) (fun h1 => ?_)
    ·
      refine J_skip ?_
      refine J_seq ?_
      refine J_block ?_
      refine J_seq ?_
      refine J_draw follows_mixed (by kernel_rfl) ?_
      refine jq rfl rfl (ltn hn rfl) (pure_move rfl rfl) ?_
      refine jq rfl rfl (ltn hn rfl) (pure_move rfl rfl) ?_
      refine jq rfl rfl (ltn hn rfl) (p_idx rfl rfl rfl (by omega) (mget (by omega))) ?_
      refine jq rfl rfl (ltn hn rfl) (p_ld rfl rfl rfl) ?_
      refine jq rfl rfl (ltn hn rfl) (pure_move rfl rfl) ?_
      refine jq rfl rfl (ltn hn rfl) (pure_move rfl rfl) ?_
      refine jq rfl rfl (ltn hn rfl) (pure_sub rfl rfl rfl (by omega)) ?_
      refine jq rfl rfl (ltn hn rfl) (p_idx rfl rfl rfl (by omega) (mget (by omega))) ?_
      refine jq rfl rfl (ltn hn rfl) (p_ld rfl rfl rfl) ?_
      refine JQ_call (args := [.tmp 14, .tmp 19]) rfl (LessI_spec _ _) rfl Tryz.func138 rfl rfl rfl (ltn hn rfl) ⟨rfl, rfl, ⟨rfl, rfl, trivial⟩⟩ ?_
      refine JQ_nil ?_
      refine J_cond rfl (fun h2 => ?_) (fun h2 => ?_)
      ·
        refine J_seq ?_
        refine J_region ?_
        refine jl rfl rfl (ltn hn rfl) (pure_assign rfl rfl) ?_
        refine JL_nil ?_
        refine J_ret ?_
        exact Fin_one rfl (Le_one rfl (vb (by exact sorted_no h1 h2)) rfl)
      ·
        refine J_skip ?_
        refine J_region ?_
        refine jl rfl rfl (ltn hn rfl) (pure_move rfl rfl) ?_
        refine jl rfl rfl (ltn hn rfl) (pure_sub rfl rfl rfl (by omega)) ?_
        refine jl rfl rfl (ltn hn rfl) (pure_assign rfl rfl) ?_
        refine JL_nil ?_
        refine ⟨i + 1, ?_, ?_, ?_⟩
        · exact ⟨by omega, sorted_step h1 h2 hc⟩
        · omega
        ·
          refine Le_sub C _ _ ⟨rfl, ⟨(eqv rfl (vi (by omega))), trivial⟩⟩ trivial rfl rfl
    ·
      refine J_exit ?_
      refine J_seq ?_
      refine J_region ?_
      refine jl rfl rfl (ltn hn rfl) (pure_assign rfl rfl) ?_
      refine JL_nil ?_
      refine J_ret ?_
      exact Fin_one rfl (Le_one rfl (vb (by exact sorted_yes h1 hc)) rfl)
theorem Max_spec (l : List Int) (h0 : 1 ≤ l.length) (hl : l.length < 2^40) : Spec Tryz.prog 124 [L l] (I (maxL l)) [] := by
  refine Spec.intro (c := _) Tryz.func124 rfl (Nat.le_of_ble_eq_true rfl) (fun C hC hfx => ?_)
  have hn : C.n = 25 := hC
  refine (show J _ _ _ _ (⟨[(0, L l)], []⟩ : AS) from ?_)
  refine J_seq ?_
  refine J_region ?_
  refine jl rfl rfl (ltn hn rfl) (pure_assign rfl rfl) ?_
  refine JL_nil ?_
  refine J_seq ?_
  refine J_seq ?_
  refine J_region ?_
  refine jl rfl rfl (ltn hn rfl) (pure_move rfl rfl) ?_
  refine jl rfl rfl (ltn hn rfl) (p_len_m rfl rfl) ?_
  refine jl rfl rfl (ltn hn rfl) (pure_lss rfl rfl rfl) ?_
  refine JL_nil ?_
  refine J_cond_p rfl (fun h1 => ?_) (fun h1 => ?_)
  ·
    omega
  ·
    refine J_skip ?_
    refine J_seq ?_
    refine J_region ?_
    refine jl rfl rfl (ltn hn rfl) (pure_move rfl rfl) ?_
    refine jl rfl rfl (ltn hn rfl) (p_idx rfl rfl rfl (by omega) (mget (by omega))) ?_
    refine jl rfl rfl (ltn hn rfl) (p_ld rfl rfl rfl) ?_
    refine jl rfl rfl (ltn hn rfl) (pure_assign rfl rfl) ?_
    refine JL_nil ?_
    refine J_seq ?_
    refine J_seq ?_
    refine J_region ?_
    refine jl rfl rfl (ltn hn rfl) (pure_assign rfl rfl) ?_
    refine JL_nil ?_
    refine J_block ?_
    refine J_loop (X := Nat) (fun i => ⟨[(0, L l), (3, I ((l.take i).foldl (fun m x => if m < x then x else m) (gi l 0))), (4, I (i : Nat))], []⟩) (fun i => 1 ≤ i ∧ i ≤ l.length) (fun i => l.length - i) 1 ?_ ?_ ?_
    · omega
    ·
      refine Le_sub C _ _ ⟨rfl, ⟨(eqv rfl (vi (by rw [show 1 = 0 + 1 from rfl, take_gi (l := l) (by omega)]; simp))), ⟨rfl, trivial⟩⟩⟩ trivial rfl rfl
    ·
      intro i hR
      obtain ⟨hi1, hi⟩ := hR
      refine J_seq ?_
      refine J_seq ?_
      refine J_region ?_
      refine jl rfl rfl (ltn hn rfl) (pure_move rfl rfl) ?_
      refine jl rfl rfl (ltn hn rfl) (pure_move rfl rfl) ?_
      refine jl rfl rfl (ltn hn rfl) (p_len_m rfl rfl) ?_
      refine jl rfl rfl (ltn hn rfl) (pure_lss rfl rfl rfl) ?_
      refine JL_nil ?_
      refine J_cond_p rfl (fun h2 => ?_) (fun h2 => ?_)
      ·
        refine J_skip ?_
        refine J_seq ?_
        refine J_block ?_
        refine J_region ?_
        refine jl rfl rfl (ltn hn rfl) (pure_move rfl rfl) ?_
        refine jl rfl rfl (ltn hn rfl) (pure_move rfl rfl) ?_
        refine jl rfl rfl (ltn hn rfl) (pure_move rfl rfl) ?_
        refine jl rfl rfl (ltn hn rfl) (p_idx rfl rfl rfl (by omega) (mget (by omega))) ?_
        refine jl rfl rfl (ltn hn rfl) (p_ld rfl rfl rfl) ?_
        refine jl rfl rfl (ltn hn rfl) (p_max rfl rfl rfl) ?_
        refine jl rfl rfl (ltn hn rfl) (pure_assign rfl rfl) ?_
        refine JL_nil ?_
        refine J_region ?_
        refine jl rfl rfl (ltn hn rfl) (pure_move rfl rfl) ?_
        refine jl rfl rfl (ltn hn rfl) (pure_add rfl rfl rfl (by omega)) ?_
        refine jl rfl rfl (ltn hn rfl) (pure_assign rfl rfl) ?_
        refine JL_nil ?_
        refine ⟨i + 1, ?_, ?_, ?_⟩
        · omega
        · omega
        ·
          refine Le_sub C _ _ ⟨rfl, ⟨(eqv rfl (vi (by rw [take_gi (l := l) (i := i) (by omega), List.foldl_append]; rfl))), ⟨(eqv rfl (vi (by omega))), trivial⟩⟩⟩ trivial rfl rfl
      ·
        refine J_exit ?_
        refine J_seq ?_
        refine J_region ?_
        refine jl rfl rfl (ltn hn rfl) (pure_move rfl rfl) ?_
        refine jl rfl rfl (ltn hn rfl) (pure_assign rfl rfl) ?_
        refine JL_nil ?_
        refine J_ret ?_
        exact Fin_one rfl (Le_one rfl (vi (by rw [take_all (l := l) (i := i) h2]; rfl)) rfl)
theorem Mul64_spec (n : Nat) (h8 : n ≤ 8) : Spec Tryz.prog 145 [U 1, U (n : Int)] (.tup [U 0, U (n : Int)]) [] := by
  refine Spec.intro (c := _) Tryz.func145 rfl (Nat.le_of_ble_eq_true rfl) (fun C hC hfx => ?_)
  have hn : C.n = 51 := hC
  refine (show J _ _ _ _ (⟨[(0, U 1), (1, U (n : Int))], []⟩ : AS) from ?_)
  refine J_seq ?_
  refine J_region ?_
  refine jl rfl rfl (ltn hn rfl) (pure_assign rfl rfl) ?_
  refine jl rfl rfl (ltn hn rfl) (pure_assign rfl rfl) ?_
  refine JL_nil ?_
  refine J_seq ?_
  refine J_region ?_
  refine jl rfl rfl (ltn hn rfl) (pure_move rfl rfl) ?_
  refine jl rfl rfl (ltn hn rfl) (p_bits rfl (by simp) rfl rfl rfl) ?_
  refine jl rfl rfl (ltn hn rfl) (pure_assign rfl rfl) ?_
  refine JL_nil ?_
  refine J_seq ?_
  refine J_region ?_
  refine jl rfl rfl (ltn hn rfl) (pure_move rfl rfl) ?_
  refine jl rfl rfl (ltn hn rfl) (p_shr rfl rfl rfl (by omega)) ?_
  refine jl rfl rfl (ltn hn rfl) (pure_assign rfl rfl) ?_
  refine JL_nil ?_
  refine J_seq ?_
  refine J_region ?_
  refine jl rfl rfl (ltn hn rfl) (pure_move rfl rfl) ?_
  refine jl rfl rfl (ltn hn rfl) (p_bits rfl (by simp) rfl rfl rfl) ?_
  refine jl rfl rfl (ltn hn rfl) (pure_assign rfl rfl) ?_
  refine JL_nil ?_
  refine J_seq ?_
  refine J_region ?_
  refine jl rfl rfl (ltn hn rfl) (pure_move rfl rfl) ?_
  refine jl rfl rfl (ltn hn rfl) (p_shr rfl rfl rfl (by omega)) ?_
  refine jl rfl rfl (ltn hn rfl) (pure_assign rfl rfl) ?_
  refine JL_nil ?_
  refine J_seq ?_
  refine J_region ?_
  refine jl rfl rfl (ltn hn rfl) (pure_move rfl rfl) ?_
  refine jl rfl rfl (ltn hn rfl) (pure_move rfl rfl) ?_
  refine jl rfl rfl (ltn hn rfl) (pk_mul rfl rfl rfl) ?_
  refine jl rfl rfl (ltn hn rfl) (pure_assign rfl rfl) ?_
  refine JL_nil ?_
  refine J_seq ?_
  refine J_region ?_
  refine jl rfl rfl (ltn hn rfl) (pure_move rfl rfl) ?_
  refine jl rfl rfl (ltn hn rfl) (pure_move rfl rfl) ?_
  refine jl rfl rfl (ltn hn rfl) (pk_mul rfl rfl rfl) ?_
  refine jl rfl rfl (ltn hn rfl) (pure_move rfl rfl) ?_
  refine jl rfl rfl (ltn hn rfl) (p_shr rfl rfl rfl (by omega)) ?_
  refine jl rfl rfl (ltn hn rfl) (pk_add rfl rfl rfl) ?_
  refine jl rfl rfl (ltn hn rfl) (pure_assign rfl rfl) ?_
  refine JL_nil ?_
  refine J_seq ?_
  refine J_region ?_
  refine jl rfl rfl (ltn hn rfl) (pure_move rfl rfl) ?_
  refine jl rfl rfl (ltn hn rfl) (p_bits rfl (by simp) rfl rfl rfl) ?_
  refine jl rfl rfl (ltn hn rfl) (pure_assign rfl rfl) ?_
  refine JL_nil ?_
  refine J_seq ?_
  refine J_region ?_
  refine jl rfl rfl (ltn hn rfl) (pure_move rfl rfl) ?_
  refine jl rfl rfl (ltn hn rfl) (p_shr rfl rfl rfl (by omega)) ?_
  refine jl rfl rfl (ltn hn rfl) (pure_assign rfl rfl) ?_
  refine JL_nil ?_
  refine J_seq ?_
  refine J_region ?_
  refine jl rfl rfl (ltn hn rfl) (pure_move rfl rfl) ?_
  refine jl rfl rfl (ltn hn rfl) (pure_move rfl rfl) ?_
  refine jl rfl rfl (ltn hn rfl) (pure_move rfl rfl) ?_
  refine jl rfl rfl (ltn hn rfl) (pk_mul rfl rfl rfl) ?_
  refine jl rfl rfl (ltn hn rfl) (pk_add rfl rfl rfl) ?_
  refine jl rfl rfl (ltn hn rfl) (pure_assign rfl rfl) ?_
  refine JL_nil ?_
  refine J_seq ?_
  refine J_region ?_
  refine jl rfl rfl (ltn hn rfl) (pure_move rfl rfl) ?_
  refine jl rfl rfl (ltn hn rfl) (pure_move rfl rfl) ?_
  refine jl rfl rfl (ltn hn rfl) (pk_mul rfl rfl rfl) ?_
  refine jl rfl rfl (ltn hn rfl) (pure_move rfl rfl) ?_
  refine jl rfl rfl (ltn hn rfl) (pk_add rfl rfl rfl) ?_
  refine jl rfl rfl (ltn hn rfl) (pure_move rfl rfl) ?_
  refine jl rfl rfl (ltn hn rfl) (p_shr rfl rfl rfl (by omega)) ?_
  refine jl rfl rfl (ltn hn rfl) (pk_add rfl rfl rfl) ?_
  refine jl rfl rfl (ltn hn rfl) (pure_assign rfl rfl) ?_
  refine JL_nil ?_
  refine J_seq ?_
  refine J_region ?_
  refine jl rfl rfl (ltn hn rfl) (pure_move rfl rfl) ?_
  refine jl rfl rfl (ltn hn rfl) (pure_move rfl rfl) ?_
  refine jl rfl rfl (ltn hn rfl) (pk_mul rfl rfl rfl) ?_
  refine jl rfl rfl (ltn hn rfl) (pure_assign rfl rfl) ?_
  refine JL_nil ?_
  refine J_ret ?_
  exact Fin_two rfl (Le_sub C _ _ ⟨(eqv rfl (congrArg U (by rcases n with _ | _ | _ | _ | _ | _ | _ | _ | _ | n <;> first | rfl | omega))), (eqv rfl (congrArg U (by rcases n with _ | _ | _ | _ | _ | _ | _ | _ | _ | n <;> first | rfl | omega))), trivial⟩ trivial rfl rfl) rfl
theorem Mul_spec (n : Nat) (h8 : n ≤ 8) : Spec Tryz.prog 135 [U 1, U (n : Int)] (.tup [U 0, U (n : Int)]) [] := by
  refine Spec.intro (c := _) Tryz.func135 rfl (Nat.le_of_ble_eq_true rfl) (fun C hC hfx => ?_)
  have hn : C.n = 30 := hC
  refine (show J _ _ _ _ (⟨[(0, U 1), (1, U (n : Int))], []⟩ : AS) from ?_)
  refine J_seq ?_
  refine J_region ?_
  refine jl rfl rfl (ltn hn rfl) (pure_assign rfl rfl) ?_
  refine jl rfl rfl (ltn hn rfl) (pure_assign rfl rfl) ?_
  refine JL_nil ?_
  refine J_seq ?_
  refine J_cond_f rfl ?_
  refine J_skip ?_
  refine J_seq ?_
  refine J_region ?_
  refine jl rfl rfl (ltn hn rfl) (pure_move rfl rfl) ?_
  refine jl rfl rfl (ltn hn rfl) (pure_move rfl rfl) ?_
  refine jl_o rfl (@op_call _ _ _ _ _ _ [.tmp 23, .tmp 24] _ _ _ _ _ (Mul64_spec _ (by omega)) rfl Tryz.func145 rfl rfl rfl (ltn hn rfl) ⟨rfl, rfl, ⟨rfl, rfl, trivial⟩⟩ rfl rfl) ?_
  refine jl rfl rfl (ltn hn rfl) (pure_move rfl rfl) ?_
  refine jl rfl rfl (ltn hn rfl) (p_extract rfl rfl rfl) ?_
  refine jl rfl rfl (ltn hn rfl) (p_extract rfl rfl rfl) ?_
  refine jl rfl rfl (ltn hn rfl) (pure_assign rfl rfl) ?_
  refine jl rfl rfl (ltn hn rfl) (pure_assign rfl rfl) ?_
  refine JL_nil ?_
  refine J_seq ?_
  refine J_region ?_
  refine jl rfl rfl (ltn hn rfl) (pure_move rfl rfl) ?_
  refine jl rfl rfl (ltn hn rfl) (pure_move rfl rfl) ?_
  refine jl rfl rfl (ltn hn rfl) (pure_assign rfl rfl) ?_
  refine jl rfl rfl (ltn hn rfl) (pure_assign rfl rfl) ?_
  refine JL_nil ?_
  refine J_ret ?_
  exact Fin_two rfl (Le_sub C _ _ ⟨(eqv rfl (congrArg U (by rcases n with _ | _ | _ | _ | _ | _ | _ | _ | _ | n <;> first | rfl | omega))), (eqv rfl (congrArg U (by rcases n with _ | _ | _ | _ | _ | _ | _ | _ | _ | n <;> first | rfl | omega))), trivial⟩ trivial rfl rfl) rfl
end Go.Proofs.YtmiijpobhajfmaaGreat.J
namespace Go.Proofs.YtmiijpobhajfmaaGreat.J
open Go Go.RowKit
set_option linter.unusedVariables false
set_option linter.unusedSimpArgs false

theorem roDL_app {a b : List AV} (ha : AV.roDL a = true) (hb : AV.roDL b = true) : AV.roDL (a ++ b) = true := by
  induction a with
  | nil => exact hb
  | cons x r ih =>
    simp only [AV.roDL, Bool.and_eq_true, List.cons_append] at ha ⊢
    exact ⟨ha.1, ih ha.2⟩
theorem roDL_sub {a : List AV} (ha : AV.roDL a = true) (n : Nat) : AV.roDL (a.take n) = true ∧ AV.roDL (a.drop n) = true := by
  induction a generalizing n with
  | nil => simp [AV.roDL]
  | cons x r ih =>
    cases n with
    | zero => exact ⟨rfl, ha⟩
    | succ n =>
      simp only [AV.roDL, Bool.and_eq_true, List.take_succ_cons, List.drop_succ_cons] at ha ⊢
      exact ⟨⟨ha.1, (ih ha.2 n).1⟩, (ih ha.2 n).2⟩
theorem roL_roDL : ∀ {cs : List AV}, AV.roL cs = true → AV.roDL cs = true
  | [], _ => rfl
  | a :: r, h => by
    simp only [AV.roL, Bool.and_eq_true] at h
    simp only [AV.roDL, Bool.and_eq_true]
    refine ⟨?_, roL_roDL h.2⟩
    have h1 := h.1
    cases a <;> first | rfl | cases h1
theorem roDL_ins {cs : List AV} {x : AV} (hx : x.roD = true) (h : AV.roDL cs = true) (n : Nat) : AV.roDL (cs.take n ++ [x] ++ cs.drop n) = true :=
  roDL_app (roDL_app (roDL_sub h n).1 (by simp [AV.roDL, hx])) (roDL_sub h n).2
theorem mid_u {i j : Nat} (h : i + j < 2^40) : IntKind.wrap .i64 (IntKind.wrap .u64 ((i : Int) + (j : Int)) / 2 ^ min (1 : Int).toNat (IntKind.bits .u64)) = (((i + j) / 2 : Nat) : Int) := by
  have h1 : IntKind.wrap .u64 ((i : Int) + (j : Int)) = ((i + j : Nat) : Int) := by
    have : IntKind.wrap .u64 ((i : Int) + (j : Int)) = ((i : Int) + (j : Int)) % 18446744073709551616 := by rfl
    rw [this]; omega
  have h2 : (2 : Int) ^ min (1 : Int).toNat (IntKind.bits .u64) = 2 := by rfl
  rw [h1, h2, wrap_id (by omega)]
  omega

theorem IndexFuncI_spec (l : List Int) (p : Int → Bool) (g nf : Nat) (cs : List AV) (fn : Func) (hnf : nf ≤ cs.length) (hfn : Tryz.prog.funcs[g]? = some fn) (hfb : fn.body.isNone = false) (hfm : (fn.name == "runtime.NumGoroutine") = false) (hro : AV.roL cs = true) (hwi : AV.withinL [] cs = true) (hl : l.length < 2^40) (hp : ∀ x ∈ l, Spec Tryz.prog g (cs.take nf ++ [I x] ++ cs.drop nf) (B (p x)) []) : Spec Tryz.prog 146 [L l, .clo g nf cs] (I (idxL p l)) [] := by
  refine Spec.intro (c := _) Tryz.func146 rfl (Nat.le_of_ble_eq_true rfl) (fun C hC hfx => ?_)
  have hn : C.n = 19 := hC
  refine (show J _ _ _ _ (⟨[(0, L l), (1, .clo g nf cs)], []⟩ : AS) from ?_)
  refine J_seq ?_
  refine J_region ?_
  refine jl rfl rfl (ltn hn rfl) (pure_assign rfl rfl) ?_
  refine JL_nil ?_
  refine J_seq ?_
  refine J_seq ?_
  refine J_region ?_
  refine jl rfl rfl (ltn hn rfl) (pure_move rfl rfl) ?_
  refine jl rfl rfl (ltn hn rfl) (p_len_m rfl rfl) ?_
  refine jl rfl rfl (ltn hn rfl) (pure_move rfl rfl) ?_
  refine JL_nil ?_
  refine J_block ?_
  refine J_loop (X := Nat) (fun i => ⟨[(0, L l), (1, .clo g nf cs), (7, I (l.length : Int)), (8, I (i : Nat))], []⟩) (fun i => i ≤ l.length ∧ (l.take i).all (fun x => !p x) = true) (fun i => l.length - i) 0 ?_ ?_ ?_
  · exact ⟨by omega, by simp⟩
  ·
    refine Le_sub C _ _ ⟨rfl, ⟨rfl, ⟨rfl, ⟨rfl, trivial⟩⟩⟩⟩ trivial (by simp [withinE, keys, AV.within, hwi]) rfl
  ·
    intro i hR
    obtain ⟨hi, hc⟩ := hR
    refine J_seq ?_
    refine J_region ?_
    refine jl rfl rfl (ltn hn rfl) (pure_lss rfl rfl rfl) ?_
    refine JL_nil ?_
    refine J_seq ?_
    refine J_cond_p rfl (fun h1 => ?_) (fun h1 => ?_)
    ·
      refine J_skip ?_
      refine J_seq ?_
      refine J_block ?_
      refine J_seq ?_
      refine J_region ?_
      refine jl rfl rfl (ltn hn rfl) (pure_move rfl rfl) ?_
      refine jl rfl rfl (ltn hn rfl) (pure_assign rfl rfl) ?_
      refine JL_nil ?_
      refine J_seq ?_
      refine J_region ?_
      refine jl rfl rfl (ltn hn rfl) (pure_move rfl rfl) ?_
      refine jl rfl rfl (ltn hn rfl) (pure_move rfl rfl) ?_
      refine jl rfl rfl (ltn hn rfl) (pure_move rfl rfl) ?_
      refine jl rfl rfl (ltn hn rfl) (p_idx rfl rfl rfl (by omega) (mget (by omega))) ?_
      refine jl rfl rfl (ltn hn rfl) (p_ld rfl rfl rfl) ?_
      refine jl_o rfl (op_callE (callsS (hp _ (gi_mem h1)) (enters_clo (args := [.tmp 15]) rfl rfl hfn hfb hfm ⟨rfl, trivial⟩ hnf) (roDL_ins rfl (roL_roDL hro) nf)) rfl (ltn hn rfl) rfl rfl) ?_
      refine JL_nil ?_
      refine J_cond rfl (fun h2 => ?_) (fun h2 => ?_)
      ·
        refine J_seq ?_
        refine J_region ?_
        refine jl rfl rfl (ltn hn rfl) (pure_move rfl rfl) ?_
        refine jl rfl rfl (ltn hn rfl) (pure_assign rfl rfl) ?_
        refine JL_nil ?_
        refine J_ret ?_
        exact Fin_one rfl (Le_one rfl (vi (by exact idx_hit h1 hc h2)) rfl)
      ·
        refine J_skip ?_
        refine J_region ?_
        refine jl rfl rfl (ltn hn rfl) (pure_add rfl rfl rfl (by omega)) ?_
        refine jl rfl rfl (ltn hn rfl) (pure_move rfl rfl) ?_
        refine JL_nil ?_
        refine ⟨i + 1, ?_, ?_, ?_⟩
        · exact ⟨by omega, all_step' h1 hc (by rw [h2]; rfl)⟩
        · omega
        ·
          refine Le_sub C _ _ ⟨rfl, ⟨rfl, ⟨rfl, ⟨(eqv rfl (vi (by omega))), trivial⟩⟩⟩⟩ trivial (by simp [withinE, keys, AV.within, hwi]) rfl
    ·
      refine J_exit ?_
      refine J_seq ?_
      refine J_region ?_
      refine jl rfl rfl (ltn hn rfl) (pure_assign rfl rfl) ?_
      refine JL_nil ?_
      refine J_ret ?_
      exact Fin_one rfl (Le_one rfl (vi (by exact idx_miss h1 hc)) rfl)
theorem ContainsFuncI_spec (l : List Int) (p : Int → Bool) (g nf : Nat) (cs : List AV) (fn : Func) (hnf : nf ≤ cs.length) (hfn : Tryz.prog.funcs[g]? = some fn) (hfb : fn.body.isNone = false) (hfm : (fn.name == "runtime.NumGoroutine") = false) (hro : AV.roL cs = true) (hwi : AV.withinL [] cs = true) (hl : l.length < 2^40) (hp : ∀ x ∈ l, Spec Tryz.prog g (cs.take nf ++ [I x] ++ cs.drop nf) (B (p x)) []) : Spec Tryz.prog 136 [L l, .clo g nf cs] (B (l.any p)) [] := by
  refine Spec.intro (c := _) Tryz.func136 rfl (Nat.le_of_ble_eq_true rfl) (fun C hC hfx => ?_)
  have hn : C.n = 9 := hC
  refine (show J _ _ _ _ (⟨[(0, L l), (1, .clo g nf cs)], []⟩ : AS) from ?_)
  refine J_seq ?_
  refine J_region ?_
  refine jl rfl rfl (ltn hn rfl) (pure_assign rfl rfl) ?_
  refine JL_nil ?_
  refine J_seq ?_
  refine J_region ?_
  refine jl rfl rfl (ltn hn rfl) (pure_move rfl rfl) ?_
  refine jl rfl rfl (ltn hn rfl) (pure_move rfl rfl) ?_
  refine jl_o rfl (@op_call _ _ _ _ _ _ [.tmp 5, .tmp 6] _ _ _ _ _ (IndexFuncI_spec l p g nf cs fn hnf hfn hfb hfm hro hwi hl hp) rfl Tryz.func146 rfl rfl rfl (ltn hn rfl) ⟨rfl, rfl, ⟨rfl, hro, trivial⟩⟩ rfl rfl) ?_
  refine jl rfl rfl (ltn hn rfl) (pure_geq rfl rfl rfl) ?_
  refine jl rfl rfl (ltn hn rfl) (pure_assign rfl rfl) ?_
  refine JL_nil ?_
  refine J_ret ?_
  exact Fin_one rfl (Le_one rfl (vb (by exact idxL_any p l)) rfl)
theorem IndexFuncL_spec (l : List (List Int)) (p : (List Int) → Bool) (g nf : Nat) (cs : List AV) (fn : Func) (hnf : nf ≤ cs.length) (hfn : Tryz.prog.funcs[g]? = some fn) (hfb : fn.body.isNone = false) (hfm : (fn.name == "runtime.NumGoroutine") = false) (hro : AV.roL cs = true) (hwi : AV.withinL [] cs = true) (hl : l.length < 2^40) (hp : ∀ x ∈ l, Spec Tryz.prog g (cs.take nf ++ [L x] ++ cs.drop nf) (B (p x)) []) : Spec Tryz.prog 129 [LL l, .clo g nf cs] (I (idxL p l)) [] := by
  refine Spec.intro (c := _) Tryz.func129 rfl (Nat.le_of_ble_eq_true rfl) (fun C hC hfx => ?_)
  have hn : C.n = 19 := hC
  refine (show J _ _ _ _ (⟨[(0, LL l), (1, .clo g nf cs)], []⟩ : AS) from ?_)
  refine J_seq ?_
  refine J_region ?_
  refine jl rfl rfl (ltn hn rfl) (pure_assign rfl rfl) ?_
  refine JL_nil ?_
  refine J_seq ?_
  refine J_seq ?_
  refine J_region ?_
  refine jl rfl rfl (ltn hn rfl) (pure_move rfl rfl) ?_
  refine jl rfl rfl (ltn hn rfl) (p_len_m rfl rfl) ?_
  refine jl rfl rfl (ltn hn rfl) (pure_move rfl rfl) ?_
  refine JL_nil ?_
  refine J_block ?_
  refine J_loop (X := Nat) (fun i => ⟨[(0, LL l), (1, .clo g nf cs), (7, I (l.length : Int)), (8, I (i : Nat))], []⟩) (fun i => i ≤ l.length ∧ (l.take i).all (fun x => !p x) = true) (fun i => l.length - i) 0 ?_ ?_ ?_
  · exact ⟨by omega, by simp⟩
  ·
    refine Le_sub C _ _ ⟨rfl, ⟨rfl, ⟨rfl, ⟨rfl, trivial⟩⟩⟩⟩ trivial (by simp [withinE, keys, AV.within, hwi]) rfl
  ·
    intro i hR
    obtain ⟨hi, hc⟩ := hR
    refine J_seq ?_
    refine J_region ?_
    refine jl rfl rfl (ltn hn rfl) (pure_lss rfl rfl rfl) ?_
    refine JL_nil ?_
    refine J_seq ?_
    refine J_cond_p rfl (fun h1 => ?_) (fun h1 => ?_)
    ·
      refine J_skip ?_
      refine J_seq ?_
      refine J_block ?_
      refine J_seq ?_
      refine J_region ?_
      refine jl rfl rfl (ltn hn rfl) (pure_move rfl rfl) ?_
      refine jl rfl rfl (ltn hn rfl) (pure_assign rfl rfl) ?_
      refine JL_nil ?_
      refine J_seq ?_
      refine J_region ?_
      refine jl rfl rfl (ltn hn rfl) (pure_move rfl rfl) ?_
      refine jl rfl rfl (ltn hn rfl) (pure_move rfl rfl) ?_
      refine jl rfl rfl (ltn hn rfl) (pure_move rfl rfl) ?_
      refine jl rfl rfl (ltn hn rfl) (p_idx rfl rfl rfl (by omega) (mget (by omega))) ?_
      refine jl rfl rfl (ltn hn rfl) (p_ld rfl rfl rfl) ?_
      refine jl_o rfl (op_callE (callsS (hp _ (gi_mem h1)) (enters_clo (args := [.tmp 15]) rfl rfl hfn hfb hfm ⟨rfl, trivial⟩ hnf) (roDL_ins rfl (roL_roDL hro) nf)) rfl (ltn hn rfl) rfl rfl) ?_
      refine JL_nil ?_
      refine J_cond rfl (fun h2 => ?_) (fun h2 => ?_)
      ·
        refine J_seq ?_
        refine J_region ?_
        refine jl rfl rfl (ltn hn rfl) (pure_move rfl rfl) ?_
        refine jl rfl rfl (ltn hn rfl) (pure_assign rfl rfl) ?_
        refine JL_nil ?_
        refine J_ret ?_
        exact Fin_one rfl (Le_one rfl (vi (by exact idx_hit h1 hc h2)) rfl)
      ·
        refine J_skip ?_
        refine J_region ?_
        refine jl rfl rfl (ltn hn rfl) (pure_add rfl rfl rfl (by omega)) ?_
        refine jl rfl rfl (ltn hn rfl) (pure_move rfl rfl) ?_
        refine JL_nil ?_
        refine ⟨i + 1, ?_, ?_, ?_⟩
        · exact ⟨by omega, all_step' h1 hc (by rw [h2]; rfl)⟩
        · omega
        ·
          refine Le_sub C _ _ ⟨rfl, ⟨rfl, ⟨rfl, ⟨(eqv rfl (vi (by omega))), trivial⟩⟩⟩⟩ trivial (by simp [withinE, keys, AV.within, hwi]) rfl
    ·
      refine J_exit ?_
      refine J_seq ?_
      refine J_region ?_
      refine jl rfl rfl (ltn hn rfl) (pure_assign rfl rfl) ?_
      refine JL_nil ?_
      refine J_ret ?_
      exact Fin_one rfl (Le_one rfl (vi (by exact idx_miss h1 hc)) rfl)
theorem ContainsFuncL_spec (l : List (List Int)) (p : (List Int) → Bool) (g nf : Nat) (cs : List AV) (fn : Func) (hnf : nf ≤ cs.length) (hfn : Tryz.prog.funcs[g]? = some fn) (hfb : fn.body.isNone = false) (hfm : (fn.name == "runtime.NumGoroutine") = false) (hro : AV.roL cs = true) (hwi : AV.withinL [] cs = true) (hl : l.length < 2^40) (hp : ∀ x ∈ l, Spec Tryz.prog g (cs.take nf ++ [L x] ++ cs.drop nf) (B (p x)) []) : Spec Tryz.prog 94 [LL l, .clo g nf cs] (B (l.any p)) [] := by
  refine Spec.intro (c := _) Tryz.func94 rfl (Nat.le_of_ble_eq_true rfl) (fun C hC hfx => ?_)
  have hn : C.n = 9 := hC
  refine (show J _ _ _ _ (⟨[(0, LL l), (1, .clo g nf cs)], []⟩ : AS) from ?_)
  refine J_seq ?_
  refine J_region ?_
  refine jl rfl rfl (ltn hn rfl) (pure_assign rfl rfl) ?_
  refine JL_nil ?_
  refine J_seq ?_
  refine J_region ?_
  refine jl rfl rfl (ltn hn rfl) (pure_move rfl rfl) ?_
  refine jl rfl rfl (ltn hn rfl) (pure_move rfl rfl) ?_
  refine jl_o rfl (@op_call _ _ _ _ _ _ [.tmp 5, .tmp 6] _ _ _ _ _ (IndexFuncL_spec l p g nf cs fn hnf hfn hfb hfm hro hwi hl hp) rfl Tryz.func129 rfl rfl rfl (ltn hn rfl) ⟨rfl, rfl, ⟨rfl, hro, trivial⟩⟩ rfl rfl) ?_
  refine jl rfl rfl (ltn hn rfl) (pure_geq rfl rfl rfl) ?_
  refine jl rfl rfl (ltn hn rfl) (pure_assign rfl rfl) ?_
  refine JL_nil ?_
  refine J_ret ?_
  exact Fin_one rfl (Le_one rfl (vb (by exact idxL_any p l)) rfl)
theorem NaN_e (x : Int) : SpecE Tryz.prog 147 [I x] (.bool false) := by
  refine SpecE.intro (c := _) Tryz.func147 rfl (Nat.le_of_ble_eq_true rfl) (fun C w hC hfx => ?_)
  have hn : C.n = 6 := hC
  refine (show K _ _ _ _ _ (⟨[(0, I x)], []⟩ : AS) from ?_)
  refine K_seq ?_
  refine K_region ?_
  refine kl rfl rfl (ltn hn rfl) (pure_assign rfl rfl) ?_
  refine KL_nil ?_
  refine K_seq ?_
  refine K_region ?_
  refine kl rfl rfl (ltn hn rfl) (pure_move rfl rfl) ?_
  refine kl rfl rfl (ltn hn rfl) (pure_move rfl rfl) ?_
  refine kl rfl rfl (ltn hn rfl) (pure_neq rfl rfl rfl) ?_
  refine kl rfl rfl (ltn hn rfl) (pure_assign rfl rfl) ?_
  refine KL_nil ?_
  refine K_ret ?_
  exact Fin_one rfl (Le_one rfl (vb (by simp)) rfl)
theorem CmpI_e (a b : Int) : SpecE Tryz.prog 139 [I a, I b] (.int .i64 (cmpI a b)) := by
  refine SpecE.intro (c := _) Tryz.func139 rfl (Nat.le_of_ble_eq_true rfl) (fun C w hC hfx => ?_)
  have hn : C.n = 20 := hC
  refine (show K _ _ _ _ _ (⟨[(0, I a), (1, I b)], []⟩ : AS) from ?_)
  refine K_seq ?_
  refine K_region ?_
  refine kl rfl rfl (ltn hn rfl) (pure_assign rfl rfl) ?_
  refine KL_nil ?_
  refine K_seq ?_
  refine K_region ?_
  refine kl rfl rfl (ltn hn rfl) (pure_move rfl rfl) ?_
  refine kl_call rfl (NaN_e _) (enters_fn (args := [.tmp 7]) rfl Tryz.func147 rfl rfl ⟨rfl, trivial⟩) rfl rfl (ltn hn rfl) ?_
  refine kl rfl rfl (ltn hn rfl) (pure_assign rfl rfl) ?_
  refine KL_nil ?_
  refine K_seq ?_
  refine K_region ?_
  refine kl rfl rfl (ltn hn rfl) (pure_move rfl rfl) ?_
  refine kl_call rfl (NaN_e _) (enters_fn (args := [.tmp 9]) rfl Tryz.func147 rfl rfl ⟨rfl, trivial⟩) rfl rfl (ltn hn rfl) ?_
  refine kl rfl rfl (ltn hn rfl) (pure_assign rfl rfl) ?_
  refine KL_nil ?_
  refine K_seq ?_
  refine K_seq ?_
  refine K_region ?_
  refine kl rfl rfl (ltn hn rfl) (pure_move rfl rfl) ?_
  refine KL_nil ?_
  refine K_cond_f rfl ?_
  refine K_skip ?_
  refine K_seq ?_
  refine K_seq ?_
  refine K_region ?_
  refine kl rfl rfl (ltn hn rfl) (pure_move rfl rfl) ?_
  refine KL_nil ?_
  refine K_cond_f rfl ?_
  refine K_skip ?_
  refine K_seq ?_
  refine K_seq ?_
  refine K_region ?_
  refine kl rfl rfl (ltn hn rfl) (pure_move rfl rfl) ?_
  refine kl rfl rfl (ltn hn rfl) (pure_move rfl rfl) ?_
  refine kl rfl rfl (ltn hn rfl) (pure_lss rfl rfl rfl) ?_
  refine KL_nil ?_
  refine K_cond_p rfl (fun h1 => ?_) (fun h1 => ?_)
  ·
    refine K_seq ?_
    refine K_region ?_
    refine kl rfl rfl (ltn hn rfl) (pure_assign rfl rfl) ?_
    refine KL_nil ?_
    refine K_ret ?_
    exact Fin_one rfl (Le_one rfl (vi (by unfold cmpI; split <;> (try split) <;> first | rfl | omega | simp_all)) rfl)
  ·
    refine K_skip ?_
    refine K_seq ?_
    refine K_seq ?_
    refine K_region ?_
    refine kl rfl rfl (ltn hn rfl) (pure_move rfl rfl) ?_
    refine kl rfl rfl (ltn hn rfl) (pure_move rfl rfl) ?_
    refine kl rfl rfl (ltn hn rfl) (pure_gtr rfl rfl rfl) ?_
    refine KL_nil ?_
    refine K_cond_p rfl (fun h2 => ?_) (fun h2 => ?_)
    ·
      refine K_seq ?_
      refine K_region ?_
      refine kl rfl rfl (ltn hn rfl) (pure_assign rfl rfl) ?_
      refine KL_nil ?_
      refine K_ret ?_
      exact Fin_one rfl (Le_one rfl (vi (by unfold cmpI; split <;> (try split) <;> first | rfl | omega | simp_all)) rfl)
    ·
      refine K_skip ?_
      refine K_seq ?_
      refine K_region ?_
      refine kl rfl rfl (ltn hn rfl) (pure_assign rfl rfl) ?_
      refine KL_nil ?_
      refine K_ret ?_
      exact Fin_one rfl (Le_one rfl (vi (by unfold cmpI; split <;> (try split) <;> first | rfl | omega | simp_all)) rfl)
theorem CmpL_e (a b : List Int) (ha : a.length < 2^40) (hb : b.length < 2^40) : SpecE Tryz.prog 122 [L a, L b] (.int .i64 (cmpL a b)) := by
  refine SpecE.intro (c := _) Tryz.func122 rfl (Nat.le_of_ble_eq_true rfl) (fun C w hC hfx => ?_)
  have hn : C.n = 36 := hC
  refine (show K _ _ _ _ _ (⟨[(0, L a), (1, L b)], []⟩ : AS) from ?_)
  refine K_seq ?_
  refine K_region ?_
  refine kl rfl rfl (ltn hn rfl) (pure_assign rfl rfl) ?_
  refine KL_nil ?_
  refine K_seq ?_
  refine K_seq ?_
  refine K_region ?_
  refine kl rfl rfl (ltn hn rfl) (pure_move rfl rfl) ?_
  refine kl rfl rfl (ltn hn rfl) (p_len_m rfl rfl) ?_
  refine kl rfl rfl (ltn hn rfl) (pure_move rfl rfl) ?_
  refine KL_nil ?_
  refine K_block ?_
  refine K_loop (X := Nat) (fun i => ⟨[(0, L a), (1, L b), (9, L a), (10, I (a.length : Int)), (11, I (i : Nat))], []⟩) (fun i => i ≤ a.length ∧ i ≤ b.length ∧ a.take i = b.take i) (fun i => a.length - i) 0 ?_ ?_ ?_
  · exact ⟨by omega, by omega, by simp⟩
  ·
    refine Le_sub C _ _ ⟨rfl, ⟨rfl, ⟨rfl, ⟨rfl, ⟨rfl, trivial⟩⟩⟩⟩⟩ trivial rfl rfl
  ·
    intro i hR
    obtain ⟨hi, hi2, hc⟩ := hR
    refine K_seq ?_
    refine K_region ?_
    refine kl rfl rfl (ltn hn rfl) (pure_lss rfl rfl rfl) ?_
    refine KL_nil ?_
    refine K_seq ?_
    refine K_cond_p rfl (fun h1 => ?_) (fun h1 => ?_)
    ·
      refine K_skip ?_
      refine K_seq ?_
      refine K_block ?_
      refine K_seq ?_
      refine K_region ?_
      refine kl rfl rfl (ltn hn rfl) (pure_move rfl rfl) ?_
      refine kl rfl rfl (ltn hn rfl) (p_idx rfl rfl rfl (by omega) (mget (by omega))) ?_
      refine kl rfl rfl (ltn hn rfl) (p_ld rfl rfl rfl) ?_
      refine kl rfl rfl (ltn hn rfl) (pure_assign rfl rfl) ?_
      refine kl rfl rfl (ltn hn rfl) (pure_assign rfl rfl) ?_
      refine KL_nil ?_
      refine K_seq ?_
      refine K_seq ?_
      refine K_region ?_
      refine kl rfl rfl (ltn hn rfl) (pure_move rfl rfl) ?_
      refine kl rfl rfl (ltn hn rfl) (pure_move rfl rfl) ?_
      refine kl rfl rfl (ltn hn rfl) (p_len_m rfl rfl) ?_
      refine kl rfl rfl (ltn hn rfl) (pure_geq rfl rfl rfl) ?_
      refine KL_nil ?_
      refine K_cond_p rfl (fun h2 => ?_) (fun h2 => ?_)
      ·
        refine K_seq ?_
        refine K_region ?_
        refine kl rfl rfl (ltn hn rfl) (pure_assign rfl rfl) ?_
        refine KL_nil ?_
        refine K_ret ?_
        exact Fin_one rfl (Le_one rfl (vi (by rw [cmpL_take i hc hi hi2, drop_gi (l := a) (i := i) (by omega), (List.drop_eq_nil_of_le (by omega) : b.drop i = [])]; rfl)) rfl)
      ·
        refine K_skip ?_
        refine K_seq ?_
        refine K_region ?_
        refine kl rfl rfl (ltn hn rfl) (pure_move rfl rfl) ?_
        refine kl rfl rfl (ltn hn rfl) (pure_move rfl rfl) ?_
        refine kl rfl rfl (ltn hn rfl) (p_idx rfl rfl rfl (by omega) (mget (by omega))) ?_
        refine kl rfl rfl (ltn hn rfl) (p_ld rfl rfl rfl) ?_
        refine kl rfl rfl (ltn hn rfl) (pure_assign rfl rfl) ?_
        refine KL_nil ?_
        refine K_seq ?_
        refine K_region ?_
        refine kl rfl rfl (ltn hn rfl) (pure_move rfl rfl) ?_
        refine kl rfl rfl (ltn hn rfl) (pure_move rfl rfl) ?_
        refine kl_call rfl (CmpI_e _ _) (enters_fn (args := [.tmp 24, .tmp 25]) rfl Tryz.func139 rfl rfl ⟨rfl, ⟨rfl, trivial⟩⟩) rfl rfl (ltn hn rfl) ?_
        refine kl rfl rfl (ltn hn rfl) (pure_assign rfl rfl) ?_
        refine KL_nil ?_
        refine K_seq ?_
        refine K_region ?_
        refine kl rfl rfl (ltn hn rfl) (pure_move rfl rfl) ?_
        refine kl rfl rfl (ltn hn rfl) (pure_neq rfl rfl rfl) ?_
        refine KL_nil ?_
        refine K_cond_p rfl (fun h3 => ?_) (fun h3 => ?_)
        ·
          refine K_seq ?_
          refine K_region ?_
          refine kl rfl rfl (ltn hn rfl) (pure_move rfl rfl) ?_
          refine kl rfl rfl (ltn hn rfl) (pure_assign rfl rfl) ?_
          refine KL_nil ?_
          refine K_ret ?_
          exact Fin_one rfl (Le_one rfl (vi (by rw [cmpL_take i hc hi hi2, drop_gi (l := a) (i := i) (by omega), drop_gi (l := b) (i := i) (by omega)]; simp only [cmpL]; rw [if_neg h3])) rfl)
        ·
          refine K_skip ?_
          refine K_region ?_
          refine kl rfl rfl (ltn hn rfl) (pure_add rfl rfl rfl (by omega)) ?_
          refine kl rfl rfl (ltn hn rfl) (pure_move rfl rfl) ?_
          refine KL_nil ?_
          have he : gi a i = gi b i := by have h3 := Decidable.not_not.1 h3; unfold cmpI at h3; split at h3; omega; split at h3; omega; omega
          refine ⟨i + 1, ?_, ?_, ?_⟩
          · exact ⟨by omega, by omega, by rw [take_gi (by omega), take_gi (by omega), hc, he]⟩
          · omega
          ·
            refine Le_sub C _ _ ⟨rfl, ⟨rfl, ⟨rfl, ⟨rfl, ⟨(eqv rfl (vi (by omega))), trivial⟩⟩⟩⟩⟩ trivial rfl rfl
    ·
      refine K_exit ?_
      refine K_seq ?_
      refine K_seq ?_
      refine K_region ?_
      refine kl rfl rfl (ltn hn rfl) (pure_move rfl rfl) ?_
      refine kl rfl rfl (ltn hn rfl) (p_len_m rfl rfl) ?_
      refine kl rfl rfl (ltn hn rfl) (pure_move rfl rfl) ?_
      refine kl rfl rfl (ltn hn rfl) (p_len_m rfl rfl) ?_
      refine kl rfl rfl (ltn hn rfl) (pure_lss rfl rfl rfl) ?_
      refine KL_nil ?_
      refine K_cond_p rfl (fun h4 => ?_) (fun h4 => ?_)
      ·
        refine K_seq ?_
        refine K_region ?_
        refine kl rfl rfl (ltn hn rfl) (pure_assign rfl rfl) ?_
        refine KL_nil ?_
        refine K_ret ?_
        exact Fin_one rfl (Le_one rfl (vi (by rw [cmpL_take i hc hi hi2, (List.drop_eq_nil_of_le (by omega) : a.drop i = []), drop_gi (l := b) (i := i) (by omega)]; rfl)) rfl)
      ·
        refine K_skip ?_
        refine K_seq ?_
        refine K_region ?_
        refine kl rfl rfl (ltn hn rfl) (pure_assign rfl rfl) ?_
        refine KL_nil ?_
        refine K_ret ?_
        exact Fin_one rfl (Le_one rfl (vi (by rw [cmpL_take i hc hi hi2, (List.drop_eq_nil_of_le (by omega) : a.drop i = []), (List.drop_eq_nil_of_le (by omega) : b.drop i = [])]; rfl)) rfl)
end Go.Proofs.YtmiijpobhajfmaaGreat.J
namespace Go.Proofs.YtmiijpobhajfmaaGreat.J
open Go Go.RowKit
set_option maxRecDepth 20000
set_option linter.unusedVariables false
set_option linter.unusedSimpArgs false

def lenB (n : Nat) : Int := if n = 0 then 0 else if n = 1 then 1 else if n < 4 then 2 else if n < 8 then 3 else 4
section
variable {P : Program} {C : Ctx} {o : Oper} {s : AS}
theorem p_conv_to {x : Operand} {src dst : TypeId} {ik k' : IntKind} {p : Int} (q : Int) [t1 : InT P src k'] [t2 : InT P dst ik] (ho : o.op = .convert src dst x) (hx : ev s x = some (.val (.int k' p))) (hw : ik.wrap p = q) : PureOp P C o s (.val (.int ik q)) := hw ▸ p_conv ho hx
end
theorem wrap_u64 {n : Nat} (h : n < 2 ^ 40) : IntKind.wrap .u64 (n : Int) = n := by
  simp [IntKind.wrap, IntKind.bits, IntKind.signed]; omega
/-- The list with two neighbors exchanged. -/
def swp (l : List Int) (j : Nat) : List Int := (l.set (j : Int).toNat (gi l ((j : Int) - 1))).set ((j : Int) - 1).toNat (gi l (j : Int))
theorem swp_len (l : List Int) (j : Nat) : (swp l j).length = l.length := by simp [swp]
theorem gi_set {l : List Int} {j : Nat} {v : Int} {p : Nat} (hj : j < l.length) : gi (l.set j v) (p : Int) = if j = p then v else gi l (p : Int) := by
  simp only [gi, Int.toNat_natCast, List.getD_eq_getElem?_getD, List.getElem?_set]
  by_cases h : j = p
  · subst h; simp [hj]
  · simp [h]
theorem swp_gi {l : List Int} {j : Nat} (h0 : 0 < j) (hj : j < l.length) (p : Nat) : gi (swp l j) (p : Int) = if p = j then gi l ((j : Int) - 1) else if p + 1 = j then gi l (j : Int) else gi l (p : Int) := by
  have e : ((j : Int) - 1).toNat = j - 1 := by omega
  unfold swp
  rw [e, Int.toNat_natCast, gi_set (by rw [List.length_set]; omega), gi_set hj]
  by_cases h1 : p = j
  · subst h1
    rw [if_neg (by omega), if_pos rfl, if_pos rfl]
  · rw [if_neg h1]
    by_cases h2 : p + 1 = j
    · rw [if_pos (by omega), if_pos h2]
    · rw [if_neg (by omega), if_neg (by omega), if_neg h2]
theorem swp_perm {l : List Int} {j : Nat} (h0 : 0 < j) (hj : j < l.length) : (swp l j).Perm l := by
  have e : ((j : Int) - 1).toNat = j - 1 := by omega
  have e2 : ((j : Int) - 1) = ((j - 1 : Nat) : Int) := by omega
  unfold swp
  rw [e, e2, Int.toNat_natCast]
  have g1 : gi l ((j - 1 : Nat) : Int) = l[j - 1]'(by omega) := by simp [gi, List.getD, show j - 1 < l.length by omega]
  have g2 : gi l (j : Int) = l[j] := by simp [gi, List.getD, hj]
  rw [g1, g2]
  exact List.set_set_perm hj (by omega)
def upTo (l : List Int) (i j : Nat) : Prop := ∀ p q : Nat, p < q → q ≤ i → q ≠ j → gi l (p : Int) ≤ gi l (q : Int)
theorem up_swap {l : List Int} {i j : Nat} (h : upTo l i j) (h0 : 0 < j) (hji : j ≤ i) (hi : i < l.length) (hlt : gi l (j : Int) < gi l ((j : Int) - 1)) : upTo (swp l j) i (j - 1) := by
  intro p q hpq hqi hqj
  rw [swp_gi h0 (by omega) p, swp_gi h0 (by omega) q]
  have e : ((j : Int) - 1) = ((j - 1 : Nat) : Int) := by omega
  rw [e] at hlt ⊢
  by_cases q1 : q = j
  · rw [if_neg (show ¬ p = j by omega), if_pos q1]
    by_cases p1 : p + 1 = j
    · rw [if_pos p1]; omega
    · rw [if_neg p1]; exact h p (j - 1) (by omega) (by omega) (by omega)
  · rw [if_neg q1, if_neg (show ¬ q + 1 = j by omega)]
    by_cases p1 : p = j
    · rw [if_pos p1]; exact h (j - 1) q (by omega) hqi q1
    · rw [if_neg p1]
      by_cases p2 : p + 1 = j
      · rw [if_pos p2]; exact h j q (by omega) hqi q1
      · rw [if_neg p2]; exact h p q hpq hqi q1
theorem up_done {l : List Int} {i j : Nat} (h : upTo l i j) (hji : j ≤ i) (hd : ¬ (0 < j ∧ gi l (j : Int) < gi l ((j : Int) - 1))) : ∀ p q : Nat, p < q → q < i + 1 → gi l (p : Int) ≤ gi l (q : Int) := by
  intro p q hpq hqi
  by_cases q1 : q = j
  · subst q1
    have hlt : gi l ((q : Int) - 1) ≤ gi l (q : Int) := by
      have := not_and.1 hd (by omega)
      omega
    have e : ((q : Int) - 1) = ((q - 1 : Nat) : Int) := by omega
    rw [e] at hlt
    by_cases p1 : p = q - 1
    · rw [p1]; exact hlt
    · have := h p (q - 1) (by omega) (by omega) (by omega)
      omega
  · exact h p q hpq (by omega) q1
theorem bbs (b : UInt8) : -9223372036854775808 ≤ 0 + IntKind.i64.wrap (b.toNat : Int) ∧ 0 + IntKind.i64.wrap (b.toNat : Int) ≤ 9223372036854775807 := by
  have h := b.toNat_lt
  have e : IntKind.i64.wrap (b.toNat : Int) = b.toNat := by
    rw [show IntKind.i64.wrap (b.toNat : Int) = _ from rfl]
    simp [IntKind.wrap, IntKind.bits, IntKind.signed]; omega
  omega
theorem sorted_eq : ∀ {a b : List Int}, a.Perm b → a.Pairwise (· ≤ ·) → b.Pairwise (· ≤ ·) → a = b := fun h ha hb =>
  h.eq_of_pairwise (fun a b _ _ h1 h2 => Int.le_antisymm h1 h2) ha hb
theorem sortL_perm (l : List Int) : (sortL l).Perm l := by
  have key : ∀ (r s : List Int), (r.foldl insL s).Perm (s ++ r) := by
    intro r
    induction r with
    | nil => intro s; simp
    | cons a r ih =>
      intro s
      refine (ih (insL s a)).trans ?_
      have h1 : (insL s a).Perm (s ++ [a]) := by
        unfold insL
        have h2 := List.takeWhile_append_dropWhile (p := fun x => decide (x ≤ a)) (l := s)
        rw [List.append_assoc]
        exact ((List.Perm.refl _).append List.perm_append_comm).trans (by rw [← List.append_assoc, h2])
      exact (h1.append_right r).trans (by simp)
  simpa [sortL] using key l []
theorem is_sorted {l l0 : List Int} {n i : Nat} (hn : l.length = n) (hp : l.Perm l0) (hi : ¬ (i : Int) < n) (hs : ∀ p q : Nat, p < q → q < i → gi l (p : Int) ≤ gi l (q : Int)) : l = sortL l0 := by
  refine sorted_eq (hp.trans (sortL_perm l0).symm) ?_ (sortL_sorted l0)
  rw [List.pairwise_iff_getElem]
  intro p q hp hq hpq
  have := hs p q hpq (by omega)
  simpa [gi, List.getD, hp, hq] using this

theorem Len64_spec (n : Nat) (h12 : n ≤ 12) : Spec Tryz.prog 157 [U (n : Int)] (I (lenB n)) [] := by
  refine Spec.intro (c := _) Tryz.func157 rfl (Nat.le_of_ble_eq_true rfl) (fun C hC hfx => ?_)
  have hn : C.n = 25 := hC
  refine (show J _ _ _ _ (⟨[(0, U (n : Int))], []⟩ : AS) from ?_)
  refine J_seq ?_
  refine J_region ?_
  refine jl rfl rfl (ltn hn rfl) (pure_assign rfl rfl) ?_
  refine JL_nil ?_
  refine J_seq ?_
  refine J_seq ?_
  refine J_region ?_
  refine jl rfl rfl (ltn hn rfl) (pure_move rfl rfl) ?_
  refine jl rfl rfl (ltn hn rfl) (pure_geq rfl rfl rfl) ?_
  refine JL_nil ?_
  refine J_cond_p rfl (fun h1 => ?_) (fun h1 => ?_)
  ·
    omega
  ·
    refine J_skip ?_
    refine J_seq ?_
    refine J_seq ?_
    refine J_region ?_
    refine jl rfl rfl (ltn hn rfl) (pure_move rfl rfl) ?_
    refine jl rfl rfl (ltn hn rfl) (pure_geq rfl rfl rfl) ?_
    refine JL_nil ?_
    refine J_cond_p rfl (fun h2 => ?_) (fun h2 => ?_)
    ·
      omega
    ·
      refine J_skip ?_
      refine J_seq ?_
      refine J_seq ?_
      refine J_region ?_
      refine jl rfl rfl (ltn hn rfl) (pure_move rfl rfl) ?_
      refine jl rfl rfl (ltn hn rfl) (pure_geq rfl rfl rfl) ?_
      refine JL_nil ?_
      refine J_cond_p rfl (fun h3 => ?_) (fun h3 => ?_)
      ·
        omega
      ·
        refine J_skip ?_
        refine J_seq ?_
        refine J_region ?_
        refine jl rfl rfl (ltn hn rfl) (pure_move rfl rfl) ?_
        refine jl rfl rfl (ltn hn rfl) (pure_move rfl rfl) ?_
        refine jl rfl rfl (ltn hn rfl) (p_conv rfl rfl) ?_
        refine jl rfl rfl (ltn hn rfl) (p_index_str rfl (by kernel_rfl) rfl (by have hw : IntKind.wrap .u8 (n : Int) = (n : Int) % 256 := rfl; first | omega | exact Nat.lt_of_lt_of_le (show (IntKind.wrap .u8 (n : Int)).toNat < 256 by omega) (Nat.le_of_eq (by kernel_rfl))) (by have hw : IntKind.wrap .u8 (n : Int) = (n : Int) % 256 := rfl; first | omega | exact Nat.lt_of_lt_of_le (show (IntKind.wrap .u8 (n : Int)).toNat < 256 by omega) (Nat.le_of_eq (by kernel_rfl)))) ?_
        refine jl rfl rfl (ltn hn rfl) (p_conv rfl rfl) ?_
        refine jl rfl rfl (ltn hn rfl) (pure_add rfl rfl rfl (by exact bbs _)) ?_
        refine jl rfl rfl (ltn hn rfl) (pure_assign rfl rfl) ?_
        refine JL_nil ?_
        refine J_ret ?_
        exact Fin_one rfl (Le_one rfl (vi (by rcases n with _ | _ | _ | _ | _ | _ | _ | _ | _ | _ | _ | _ | _ | n <;> first | (exact (by kernel_rfl : _ = _)) | rfl | omega)) rfl)
theorem Len_spec (n : Nat) (h12 : n ≤ 12) : Spec Tryz.prog 142 [U (n : Int)] (I (lenB n)) [] := by
  refine Spec.intro (c := _) Tryz.func142 rfl (Nat.le_of_ble_eq_true rfl) (fun C hC hfx => ?_)
  have hn : C.n = 8 := hC
  refine (show J _ _ _ _ (⟨[(0, U (n : Int))], []⟩ : AS) from ?_)
  refine J_seq ?_
  refine J_region ?_
  refine jl rfl rfl (ltn hn rfl) (pure_assign rfl rfl) ?_
  refine JL_nil ?_
  refine J_seq ?_
  refine J_cond_f rfl ?_
  refine J_skip ?_
  refine J_seq ?_
  refine J_region ?_
  refine jl rfl rfl (ltn hn rfl) (pure_move rfl rfl) ?_
  refine jl_o rfl (@op_call _ _ _ _ _ _ [.tmp 6] _ _ _ _ _ (Len64_spec _ (by omega)) rfl Tryz.func157 rfl rfl rfl (ltn hn rfl) ⟨rfl, rfl, trivial⟩ rfl rfl) ?_
  refine jl rfl rfl (ltn hn rfl) (pure_assign rfl rfl) ?_
  refine JL_nil ?_
  refine J_ret ?_
  exact Fin_one rfl (Le_one rfl (vi (by rfl)) rfl)
theorem InsOrd_spec (l : List Int) (hl : l.length ≤ 12) : SpecM Tryz.prog 148 [(2000000, Ow 3 1 cI l)] [.own 2000000 [], I 0, I (l.length : Int)] (.tup []) [(2000000, Ow 3 1 cI (sortL l))] := by
  refine SpecM.intro (c := _) Tryz.func148 rfl (Nat.le_of_ble_eq_true rfl) (fun C hC hfx => ?_)
  have hn : C.n = 49 := hC
  refine (show J _ _ _ _ (⟨[(0, .own 2000000 []), (1, I 0), (2, I (l.length : Int))], [(2000000, Ow 3 1 cI l)]⟩ : AS) from ?_)
  refine J_seq ?_
  refine J_region ?_
  refine jl rfl rfl (ltn hn rfl) (pure_move rfl rfl) ?_
  refine jl rfl rfl (ltn hn rfl) (pure_add rfl rfl rfl (by omega)) ?_
  refine jl rfl rfl (ltn hn rfl) (pure_assign rfl rfl) ?_
  refine JL_nil ?_
  refine J_block ?_
  refine J_loop (X := Nat × List Int) (fun s => ⟨[(0, .own 2000000 []), (1, I 0), (2, I (l.length : Int)), (6, I (s.1 : Nat))], [(2000000, Ow 3 1 cI s.2)]⟩) (fun s => 1 ≤ s.1 ∧ s.1 ≤ l.length + 1 ∧ s.2.length = l.length ∧ s.2.Perm l ∧ (∀ p q : Nat, p < q → q < s.1 → gi s.2 (p : Int) ≤ gi s.2 (q : Int))) (fun s => l.length + 1 - s.1) (1, l) ?_ ?_ ?_
  · exact ⟨by omega, by omega, rfl, List.Perm.refl _, fun p q h1 h2 => by simp only [] at h2; omega⟩
  ·
    refine Le_sub C _ _ ⟨rfl, ⟨rfl, ⟨rfl, ⟨rfl, trivial⟩⟩⟩⟩ ⟨rfl, trivial⟩ rfl rfl
  ·
    intro s hR
    obtain ⟨ha, hb, hc, hd, he⟩ := hR
    refine J_seq ?_
    refine J_seq ?_
    refine J_region ?_
    refine jl rfl rfl (ltn hn rfl) (pure_move rfl rfl) ?_
    refine jl rfl rfl (ltn hn rfl) (pure_move rfl rfl) ?_
    refine jl rfl rfl (ltn hn rfl) (pure_lss rfl rfl rfl) ?_
    refine JL_nil ?_
    refine J_cond_p rfl (fun h1 => ?_) (fun h1 => ?_)
    ·
      refine J_skip ?_
      refine J_seq ?_
      refine J_block ?_
      refine J_seq ?_
      refine J_region ?_
      refine jl rfl rfl (ltn hn rfl) (pure_move rfl rfl) ?_
      refine jl rfl rfl (ltn hn rfl) (pure_assign rfl rfl) ?_
      refine JL_nil ?_
      refine J_block ?_
      refine J_loop (X := Nat × List Int) (fun t => ⟨[(0, .own 2000000 []), (1, I 0), (2, I (l.length : Int)), (6, I (s.1 : Nat)), (7, I (t.1 : Nat))], [(2000000, Ow 3 1 cI t.2)]⟩) (fun t => t.1 ≤ s.1 ∧ t.2.length = l.length ∧ t.2.Perm l ∧ upTo t.2 s.1 t.1) (fun t => t.1) (s.1, s.2) ?_ ?_ ?_
      · exact ⟨Nat.le_refl _, hc, hd, fun p q h1 h2 h3 => he p q h1 (by simp only [] at h3; omega)⟩
      ·
        refine Le_sub C _ _ ⟨rfl, ⟨rfl, ⟨rfl, ⟨rfl, ⟨rfl, trivial⟩⟩⟩⟩⟩ ⟨rfl, trivial⟩ rfl rfl
      ·
        intro t hR
        obtain ⟨hf, hg, hh, hi⟩ := hR
        refine J_seq ?_
        refine J_seq ?_
        refine J_draw follows_mixed (by kernel_rfl) ?_
        refine jq rfl rfl (ltn hn rfl) (pure_move rfl rfl) ?_
        refine jq rfl rfl (ltn hn rfl) (pure_move rfl rfl) ?_
        refine jq rfl rfl (ltn hn rfl) (pure_gtr rfl rfl rfl) ?_
        refine jq rfl rfl (ltn hn rfl) (pure_move rfl rfl) ?_
        refine jq_split rfl rfl rfl (fun h2 => ?_) (fun h2 => ?_)
        ·
          refine jq rfl rfl (ltn hn rfl) (pure_move rfl rfl) ?_
          refine jq rfl rfl (ltn hn rfl) (pure_move rfl rfl) ?_
          refine jq rfl rfl (ltn hn rfl) (p_idx_own_m rfl rfl rfl rfl (by first | omega | (simp only [List.length_set]; omega)) (by first | omega | (simp only [List.length_set]; omega))) ?_
          refine jq rfl rfl (ltn hn rfl) (p_ld_o rfl rfl rfl rfl (mget (by first | omega | (simp only [List.length_set]; omega))) rfl) ?_
          refine jq rfl rfl (ltn hn rfl) (pure_move rfl rfl) ?_
          refine jq rfl rfl (ltn hn rfl) (pure_move rfl rfl) ?_
          refine jq rfl rfl (ltn hn rfl) (pure_sub rfl rfl rfl (by first | omega | (simp only [List.length_set]; omega))) ?_
          refine jq rfl rfl (ltn hn rfl) (p_idx_own_m rfl rfl rfl rfl (by first | omega | (simp only [List.length_set]; omega)) (by first | omega | (simp only [List.length_set]; omega))) ?_
          refine jq rfl rfl (ltn hn rfl) (p_ld_o rfl rfl rfl rfl (mget (by first | omega | (simp only [List.length_set]; omega))) rfl) ?_
          refine JQ_call (args := [.tmp 23, .tmp 28]) rfl (LessI_spec _ _) rfl Tryz.func138 rfl rfl rfl (ltn hn rfl) ⟨rfl, rfl, ⟨rfl, rfl, trivial⟩⟩ ?_
          refine jq rfl rfl (ltn hn rfl) (pure_pick_t rfl rfl rfl) ?_
          refine JQ_nil ?_
          refine J_cond rfl (fun h3 => ?_) (fun h3 => ?_)
          ·
            refine J_skip ?_
            refine J_seq ?_
            refine J_block ?_
            refine J_mixed [2000000] follows_mixed (by kernel_rfl) ?_
            refine JD1_read 0 rfl (by kernel_rfl) (by kernel_rfl) (by kernel_rfl) rfl rfl (ltn hn rfl) (pure_move rfl rfl) rfl ?_
            refine JD1_read 1 rfl (by kernel_rfl) (by kernel_rfl) (by kernel_rfl) rfl rfl (ltn hn rfl) (pure_move rfl rfl) rfl ?_
            refine JD1_read 2 rfl (by kernel_rfl) (by kernel_rfl) (by kernel_rfl) rfl rfl (ltn hn rfl) (pure_move rfl rfl) rfl ?_
            refine JD1_read 3 rfl (by kernel_rfl) (by kernel_rfl) (by kernel_rfl) rfl rfl (ltn hn rfl) (pure_move rfl rfl) rfl ?_
            refine JD1_read 4 rfl (by kernel_rfl) (by kernel_rfl) (by kernel_rfl) rfl rfl (ltn hn rfl) (pure_sub rfl rfl rfl (by first | omega | (simp only [List.length_set]; omega))) rfl ?_
            refine JD1_read 5 rfl (by kernel_rfl) (by kernel_rfl) (by kernel_rfl) rfl rfl (ltn hn rfl) (pure_move rfl rfl) rfl ?_
            refine JD1_read 6 rfl (by kernel_rfl) (by kernel_rfl) (by kernel_rfl) rfl rfl (ltn hn rfl) (pure_move rfl rfl) rfl ?_
            refine JD1_read 7 rfl (by kernel_rfl) (by kernel_rfl) (by kernel_rfl) rfl rfl (ltn hn rfl) (pure_sub rfl rfl rfl (by first | omega | (simp only [List.length_set]; omega))) rfl ?_
            refine JD1_read 8 rfl (by kernel_rfl) (by kernel_rfl) (by kernel_rfl) rfl rfl (ltn hn rfl) (p_idx_own_m rfl rfl rfl rfl (by first | omega | (simp only [List.length_set]; omega)) (by first | omega | (simp only [List.length_set]; omega))) rfl ?_
            refine JD1_read 10 rfl (by kernel_rfl) (by kernel_rfl) (by kernel_rfl) rfl rfl (ltn hn rfl) (pure_move rfl rfl) rfl ?_
            refine JD1_read 11 rfl (by kernel_rfl) (by kernel_rfl) (by kernel_rfl) rfl rfl (ltn hn rfl) (pure_move rfl rfl) rfl ?_
            refine JD1_read 12 rfl (by kernel_rfl) (by kernel_rfl) (by kernel_rfl) rfl rfl (ltn hn rfl) (p_idx_own_m rfl rfl rfl rfl (by first | omega | (simp only [List.length_set]; omega)) (by first | omega | (simp only [List.length_set]; omega))) rfl ?_
            refine JD1_go ?_
            refine JD_two 9 13 rfl rfl (by kernel_rfl) rfl rfl (OpD.of_pure rfl (ltn hn rfl) (p_ld_o rfl rfl rfl rfl (mget (by first | omega | (simp only [List.length_set]; omega))) rfl)) rfl (OpD.of_pure rfl (ltn hn rfl) (p_ld_o rfl rfl rfl rfl (mget (by first | omega | (simp only [List.length_set]; omega))) rfl)) rfl ?_ ?_
            ·
              refine JD_only 13 rfl (by kernel_rfl) rfl (OpD.of_pure rfl (ltn hn rfl) (p_ld_o rfl rfl rfl rfl (mget (by first | omega | (simp only [List.length_set]; omega))) rfl)) rfl ?_
              refine JD_still 14 rfl (by kernel_rfl) (by kernel_rfl) (by kernel_rfl) rfl rfl (ltn hn rfl) (p_idx_own_m rfl rfl rfl rfl (by first | omega | (simp only [List.length_set]; omega)) (by first | omega | (simp only [List.length_set]; omega))) ?_
              refine JD_only 15 rfl (by kernel_rfl) rfl (@op_store_row_m _ _ _ _ _ cI _ _ _ _ _ _ _ _ _ SzT.out rfl rfl rfl rfl rfl rfl rfl rfl (fun _ => rfl) (by first | omega | (simp only [List.length_set]; omega))) rfl ?_
              refine JD_still 16 rfl (by kernel_rfl) (by kernel_rfl) (by kernel_rfl) rfl rfl (ltn hn rfl) (p_idx_own_m rfl rfl rfl rfl (by first | omega | (simp only [List.length_set]; omega)) (by first | omega | (simp only [List.length_set]; omega))) ?_
              refine JD_only 17 rfl (by kernel_rfl) rfl (@op_store_row_m _ _ _ _ _ cI _ _ _ _ _ _ _ _ _ SzT.out rfl rfl rfl rfl rfl rfl rfl rfl (fun _ => rfl) (by first | omega | (simp only [List.length_set]; omega))) rfl ?_
              refine JD_done (by kernel_rfl) ?_
              refine J_region ?_
              refine jl rfl rfl (ltn hn rfl) (pure_move rfl rfl) ?_
              refine jl rfl rfl (ltn hn rfl) (pure_sub rfl rfl rfl (by omega)) ?_
              refine jl rfl rfl (ltn hn rfl) (pure_assign rfl rfl) ?_
              refine JL_nil ?_
              refine ⟨(t.1 - 1, swp t.2 t.1), ?_, ?_, ?_⟩
              · exact ⟨by simp only []; omega, by rw [swp_len]; exact hg, (swp_perm (by omega) (by omega)).trans hh, up_swap hi (by omega) hf (by omega) (of_decide_eq_true h3)⟩
              · simp only []; omega
              ·
                refine Le_sub C _ _ ⟨rfl, ⟨rfl, ⟨rfl, ⟨rfl, ⟨(eqv rfl (vi (by simp only []; omega))), trivial⟩⟩⟩⟩⟩ ⟨rfl, trivial⟩ rfl rfl
            ·
              refine JD_only 9 rfl (by kernel_rfl) rfl (OpD.of_pure rfl (ltn hn rfl) (p_ld_o rfl rfl rfl rfl (mget (by first | omega | (simp only [List.length_set]; omega))) rfl)) rfl ?_
              refine JD_still 14 rfl (by kernel_rfl) (by kernel_rfl) (by kernel_rfl) rfl rfl (ltn hn rfl) (p_idx_own_m rfl rfl rfl rfl (by first | omega | (simp only [List.length_set]; omega)) (by first | omega | (simp only [List.length_set]; omega))) ?_
              refine JD_only 15 rfl (by kernel_rfl) rfl (@op_store_row_m _ _ _ _ _ cI _ _ _ _ _ _ _ _ _ SzT.out rfl rfl rfl rfl rfl rfl rfl rfl (fun _ => rfl) (by first | omega | (simp only [List.length_set]; omega))) rfl ?_
              refine JD_still 16 rfl (by kernel_rfl) (by kernel_rfl) (by kernel_rfl) rfl rfl (ltn hn rfl) (p_idx_own_m rfl rfl rfl rfl (by first | omega | (simp only [List.length_set]; omega)) (by first | omega | (simp only [List.length_set]; omega))) ?_
              refine JD_only 17 rfl (by kernel_rfl) rfl (@op_store_row_m _ _ _ _ _ cI _ _ _ _ _ _ _ _ _ SzT.out rfl rfl rfl rfl rfl rfl rfl rfl (fun _ => rfl) (by first | omega | (simp only [List.length_set]; omega))) rfl ?_
              refine JD_done (by kernel_rfl) ?_
              refine J_region ?_
              refine jl rfl rfl (ltn hn rfl) (pure_move rfl rfl) ?_
              refine jl rfl rfl (ltn hn rfl) (pure_sub rfl rfl rfl (by omega)) ?_
              refine jl rfl rfl (ltn hn rfl) (pure_assign rfl rfl) ?_
              refine JL_nil ?_
              refine ⟨(t.1 - 1, swp t.2 t.1), ?_, ?_, ?_⟩
              · exact ⟨by simp only []; omega, by rw [swp_len]; exact hg, (swp_perm (by omega) (by omega)).trans hh, up_swap hi (by omega) hf (by omega) (of_decide_eq_true h3)⟩
              · simp only []; omega
              ·
                refine Le_sub C _ _ ⟨rfl, ⟨rfl, ⟨rfl, ⟨rfl, ⟨(eqv rfl (vi (by simp only []; omega))), trivial⟩⟩⟩⟩⟩ ⟨rfl, trivial⟩ rfl rfl
          ·
            refine J_exit ?_
            refine J_region ?_
            refine jl rfl rfl (ltn hn rfl) (pure_move rfl rfl) ?_
            refine jl rfl rfl (ltn hn rfl) (pure_add rfl rfl rfl (by omega)) ?_
            refine jl rfl rfl (ltn hn rfl) (pure_assign rfl rfl) ?_
            refine JL_nil ?_
            refine ⟨(s.1 + 1, t.2), ?_, ?_, ?_⟩
            · exact ⟨by simp only []; omega, by simp only []; omega, hg, hh, up_done hi hf (fun h => of_decide_eq_false h3 h.2)⟩
            · simp only []; omega
            ·
              refine Le_sub C _ _ ⟨rfl, ⟨rfl, ⟨rfl, ⟨(eqv rfl (vi (by simp only []; omega))), trivial⟩⟩⟩⟩ ⟨rfl, trivial⟩ rfl rfl
        ·
          refine jq_s rfl rfl (ltn hn rfl) ?_
          refine jq_s rfl rfl (ltn hn rfl) ?_
          refine jq_s rfl rfl (ltn hn rfl) ?_
          refine jq_s rfl rfl (ltn hn rfl) ?_
          refine jq_s rfl rfl (ltn hn rfl) ?_
          refine jq_s rfl rfl (ltn hn rfl) ?_
          refine jq_s rfl rfl (ltn hn rfl) ?_
          refine jq_s rfl rfl (ltn hn rfl) ?_
          refine jq_s rfl rfl (ltn hn rfl) ?_
          refine jq_s rfl rfl (ltn hn rfl) ?_
          refine jq rfl rfl (ltn hn rfl) (pure_pick_f rfl rfl rfl) ?_
          refine JQ_nil ?_
          refine J_cond_f rfl ?_
          refine J_exit ?_
          refine J_region ?_
          refine jl rfl rfl (ltn hn rfl) (pure_move rfl rfl) ?_
          refine jl rfl rfl (ltn hn rfl) (pure_add rfl rfl rfl (by omega)) ?_
          refine jl rfl rfl (ltn hn rfl) (pure_assign rfl rfl) ?_
          refine JL_nil ?_
          refine ⟨(s.1 + 1, t.2), ?_, ?_, ?_⟩
          · exact ⟨by simp only []; omega, by simp only []; omega, hg, hh, up_done hi hf (fun h => h2 (by have := h.1; omega))⟩
          · simp only []; omega
          ·
            refine Le_sub C _ _ ⟨rfl, ⟨rfl, ⟨rfl, ⟨(eqv rfl (vi (by simp only []; omega))), trivial⟩⟩⟩⟩ ⟨rfl, trivial⟩ rfl rfl
    ·
      refine J_exit ?_
      exact Fin_none rfl (Le_sub C _ _ trivial ⟨(eqv rfl (by rw [is_sorted hc hd (i := s.1) (by omega) he])), trivial⟩ rfl rfl)
theorem PdqOrd_spec (l : List Int) (m : Int) (hl : l.length ≤ 12) : SpecM Tryz.prog 141 [(2000000, Ow 3 1 cI l)] [.own 2000000 [], I 0, I (l.length : Int), I m] (.tup []) [(2000000, Ow 3 1 cI (sortL l))] := by
  refine SpecM.intro (c := _) Tryz.func141 rfl (Nat.le_of_ble_eq_true rfl) (fun C hC hfx => ?_)
  have hn : C.n = 134 := hC
  refine (show J _ _ _ _ (⟨[(0, .own 2000000 []), (1, I 0), (2, I (l.length : Int)), (3, I m)], [(2000000, Ow 3 1 cI l)]⟩ : AS) from ?_)
  refine J_seq ?_
  refine J_region ?_
  refine jl rfl rfl (ltn hn rfl) (pure_assign rfl rfl) ?_
  refine JL_nil ?_
  refine J_seq ?_
  refine J_region ?_
  refine jl rfl rfl (ltn hn rfl) (pure_assign rfl rfl) ?_
  refine JL_nil ?_
  refine J_block ?_
  refine J_loop (X := Unit) (fun u => ⟨[(0, .own 2000000 []), (1, I 0), (2, I (l.length : Int))], [(2000000, Ow 3 1 cI l)]⟩) (fun u => True) (fun u => 0) () ?_ ?_ ?_
  · trivial
  ·
    refine Le_sub C _ _ ⟨rfl, ⟨rfl, ⟨rfl, trivial⟩⟩⟩ ⟨rfl, trivial⟩ rfl rfl
  ·
    intro u hu
    refine J_block ?_
    refine J_seq ?_
    refine J_region ?_
    refine jl rfl rfl (ltn hn rfl) (pure_move rfl rfl) ?_
    refine jl rfl rfl (ltn hn rfl) (pure_move rfl rfl) ?_
    refine jl rfl rfl (ltn hn rfl) (pure_sub rfl rfl rfl (by omega)) ?_
    refine jl rfl rfl (ltn hn rfl) (pure_assign rfl rfl) ?_
    refine JL_nil ?_
    refine J_seq ?_
    refine J_seq ?_
    refine J_region ?_
    refine jl rfl rfl (ltn hn rfl) (pure_move rfl rfl) ?_
    refine jl rfl rfl (ltn hn rfl) (pure_leq rfl rfl rfl) ?_
    refine JL_nil ?_
    refine J_cond_p rfl (fun h1 => ?_) (fun h1 => ?_)
    ·
      refine J_seq ?_
      refine J_region ?_
      refine jl rfl rfl (ltn hn rfl) (pure_move rfl rfl) ?_
      refine jl rfl rfl (ltn hn rfl) (pure_move rfl rfl) ?_
      refine jl rfl rfl (ltn hn rfl) (pure_move rfl rfl) ?_
      refine jl_o rfl (op_callM (callsM (InsOrd_spec _ (by omega)) (enters_fn (args := [.tmp 24, .tmp 25, .tmp 26]) rfl Tryz.func148 rfl rfl ⟨rfl, ⟨rfl, ⟨rfl, trivial⟩⟩⟩) rfl ⟨rfl, trivial⟩ rfl) ⟨rfl, trivial⟩ rfl rfl (ltn hn rfl) rfl rfl) ?_
      refine JL_nil ?_
      refine J_ret ?_
      exact Fin_none rfl (Le_sub C _ _ trivial ⟨rfl, trivial⟩ rfl rfl)
    ·
      omega
theorem Sort_spec (l : List Int) (hl : l.length ≤ 12) : SpecM Tryz.prog 130 [(2000000, Ow 3 1 cI l)] [.own 2000000 []] (.tup []) [(2000000, Ow 3 1 cI (sortL l))] := by
  refine SpecM.intro (c := _) Tryz.func130 rfl (Nat.le_of_ble_eq_true rfl) (fun C hC hfx => ?_)
  have hn : C.n = 11 := hC
  refine (show J _ _ _ _ (⟨[(0, .own 2000000 [])], [(2000000, Ow 3 1 cI l)]⟩ : AS) from ?_)
  refine J_seq ?_
  refine J_region ?_
  refine jl rfl rfl (ltn hn rfl) (pure_move rfl rfl) ?_
  refine jl rfl rfl (ltn hn rfl) (p_len_om rfl rfl rfl) ?_
  refine jl rfl rfl (ltn hn rfl) (pure_assign rfl rfl) ?_
  refine JL_nil ?_
  refine J_region ?_
  refine jl rfl rfl (ltn hn rfl) (pure_move rfl rfl) ?_
  refine jl rfl rfl (ltn hn rfl) (pure_move rfl rfl) ?_
  refine jl rfl rfl (ltn hn rfl) (pure_move rfl rfl) ?_
  refine jl rfl rfl (ltn hn rfl) (p_conv_to (l.length : Nat) rfl rfl (wrap_u64 (by omega))) ?_
  refine jl_o rfl (@op_call _ _ _ _ _ _ [.tmp 8] _ _ _ _ _ (Len_spec _ (by omega)) rfl Tryz.func142 rfl rfl rfl (ltn hn rfl) ⟨rfl, rfl, trivial⟩ rfl rfl) ?_
  refine jl_o rfl (op_callM (callsM (PdqOrd_spec _ _ (by omega)) (enters_fn (args := [.tmp 5, .const (.int .i64 0), .tmp 6, .tmp 9]) rfl Tryz.func141 rfl rfl ⟨rfl, ⟨rfl, ⟨rfl, ⟨rfl, trivial⟩⟩⟩⟩) rfl ⟨rfl, trivial⟩ rfl) ⟨rfl, trivial⟩ rfl rfl (ltn hn rfl) rfl rfl) ?_
  refine JL_nil ?_
  exact Fin_none rfl (Le_sub C _ _ trivial ⟨rfl, trivial⟩ rfl rfl)
end Go.Proofs.YtmiijpobhajfmaaGreat.J
namespace Go.Proofs.YtmiijpobhajfmaaGreat.J
open Go Go.RowKit
set_option linter.unusedVariables false
set_option linter.unusedSimpArgs false

theorem gi_setG {α : Type} [Inhabited α] {l : List α} {j : Nat} {v : α} {p : Nat} (hj : j < l.length) : gi (l.set j v) (p : Int) = if j = p then v else gi l (p : Int) := by
  simp only [gi, Int.toNat_natCast, List.getD_eq_getElem?_getD, List.getElem?_set]
  by_cases h : j = p
  · subst h; simp [hj]
  · simp [h]
theorem gi_natG {α : Type} [Inhabited α] {l : List α} {p : Nat} (h : p < l.length) : gi l (p : Int) = l[p] := by
  simp [gi, List.getD, h]
section
variable {P : Program} {C : Ctx} {o : Oper} {s : AS}
theorem enters_clo0 {g : Nat} {x : Operand} {fn : Func} {args : List Operand} {tys : Array TypeId} {ins : List AV} (ho : o.op = .call { callee := .value x, args := args.toArray, argTypes := tys }) (hx : ev s x = some (.clo g 0 [])) (hf : P.funcs[g]? = some fn) (hb : fn.body.isNone = false)
    (hnm : (fn.name == "runtime.NumGoroutine") = false) (he : evA s args ins) : Enters P C s o g ins := by
  have h := enters_clo (C := C) ho hx hf hb hnm he (Nat.le_refl 0)
  simpa using h
theorem enters_cloF {g nf : Nat} {cs : List AV} {x : Operand} {fn : Func} {args : List Operand} {tys : Array TypeId} {ins : List AV} (ho : o.op = .call { callee := .value x, args := args.toArray, argTypes := tys }) (hx : ev s x = some (.clo g nf cs)) (hf : P.funcs[g]? = some fn) (hb : fn.body.isNone = false)
    (hnm : (fn.name == "runtime.NumGoroutine") = false) (he : evA s args ins) (hnf : Nat.beq nf cs.length = true) : Enters P C s o g (cs ++ ins) := by
  have hnf := Nat.eq_of_beq_eq_true hnf
  have h := enters_clo (C := C) ho hx hf hb hnm he (Nat.le_of_eq hnf)
  rw [hnf] at h
  simpa using h
end
/-- The list with its first i elements exchanged with its last. -/
def revN (l : List (List Int)) : Nat → List (List Int)
  | 0 => l
  | i + 1 => ((revN l i).set (i : Int).toNat (gi (revN l i) ((l.length : Int) - 1 - (i : Nat)))).set ((l.length : Int) - 1 - (i : Nat)).toNat (gi (revN l i) (i : Int))
theorem revN_len (l : List (List Int)) (i : Nat) : (revN l i).length = l.length := by
  induction i with
  | zero => rfl
  | succ i ih => simp [revN, ih]
theorem revN_gi (l : List (List Int)) (i : Nat) (h : 2 * i ≤ l.length + 1) (p : Nat) (hp : p < l.length) : gi (revN l i) (p : Int) = if p < i ∨ l.length < p + 1 + i then gi l ((l.length - 1 - p : Nat) : Int) else gi l (p : Int) := by
  induction i generalizing p with
  | zero => rw [if_neg (by omega)]; rfl
  | succ i ih =>
    have hl := revN_len l i
    have e : ((l.length : Int) - 1 - (i : Nat)).toNat = l.length - 1 - i := by omega
    have e2 : ((l.length : Int) - 1 - (i : Nat)) = ((l.length - 1 - i : Nat) : Int) := by omega
    rw [revN, e, e2, Int.toNat_natCast, gi_setG (by rw [List.length_set]; omega), gi_setG (by omega)]
    have g1 : gi (revN l i) ((l.length - 1 - i : Nat) : Int) = gi l ((l.length - 1 - i : Nat) : Int) := by rw [ih (by omega) _ (by omega), if_neg (by omega)]
    have g2 : gi (revN l i) (i : Int) = gi l (i : Int) := by rw [ih (by omega) _ (by omega), if_neg (by omega)]
    rw [g1, g2, ih (by omega) p hp]
    by_cases h1 : l.length - 1 - i = p
    · rw [if_pos h1, if_pos (by omega), show l.length - 1 - p = i by omega]
    · rw [if_neg h1]
      by_cases h2 : i = p
      · rw [if_pos h2, if_pos (by omega), h2]
      · rw [if_neg h2]
        by_cases h3 : p < i ∨ l.length < p + 1 + i
        · rw [if_pos h3, if_pos (by omega)]
        · rw [if_neg h3, if_neg (by omega)]
theorem revN_all {l : List (List Int)} {i : Nat} (h : 2 * i ≤ l.length + 1) (h2 : ¬ (i : Int) < (l.length : Int) - 1 - (i : Nat)) : revN l i = l.reverse := by
  apply List.ext_getElem
  · rw [revN_len, List.length_reverse]
  · intro p h3 h4
    rw [revN_len] at h3
    have e := revN_gi l i h p h3
    rw [gi_natG (by rw [revN_len]; exact h3)] at e
    rw [e, List.getElem_reverse, gi_natG h3, gi_natG (show l.length - 1 - p < l.length by omega)]
    by_cases h5 : p < i ∨ l.length < p + 1 + i
    · rw [if_pos h5]
    · rw [if_neg h5]
      congr 1; omega

theorem Bin_spec (ls : List (List Int)) (t : List Int) (c : Nat) (hc : c ≤ ls.length) (hl : ls.length < 2^30) (hb : ∀ x ∈ ls, x.length < 2^40) (ht : t.length < 2^40) (hp : ∀ h : Nat, h < ls.length → (cmpL (gi ls (h : Int)) t < 0 ↔ h < c)) : Spec Tryz.prog 121 [LL ls, L t, .clo 122 0 []] (.tup [I (c : Nat), B (decide ((c : Int) < ls.length) && decide (cmpL (gi ls (c : Nat)) t = 0))]) [] := by
  refine Spec.intro (c := _) Tryz.func121 rfl (Nat.le_of_ble_eq_true rfl) (fun C hC hfx => ?_)
  have hn : C.n = 49 := hC
  refine (show J _ _ _ _ (⟨[(0, LL ls), (1, L t), (2, .clo 122 0 [])], []⟩ : AS) from ?_)
  refine J_seq ?_
  refine J_region ?_
  refine jl rfl rfl (ltn hn rfl) (pure_assign rfl rfl) ?_
  refine jl rfl rfl (ltn hn rfl) (pure_assign rfl rfl) ?_
  refine JL_nil ?_
  refine J_seq ?_
  refine J_region ?_
  refine jl rfl rfl (ltn hn rfl) (pure_move rfl rfl) ?_
  refine jl rfl rfl (ltn hn rfl) (p_len_m rfl rfl) ?_
  refine jl rfl rfl (ltn hn rfl) (pure_assign rfl rfl) ?_
  refine JL_nil ?_
  refine J_seq ?_
  refine J_region ?_
  refine jl rfl rfl (ltn hn rfl) (pure_move rfl rfl) ?_
  refine jl rfl rfl (ltn hn rfl) (pure_assign rfl rfl) ?_
  refine jl rfl rfl (ltn hn rfl) (pure_assign rfl rfl) ?_
  refine JL_nil ?_
  refine J_seq ?_
  refine J_block ?_
  refine J_loop (X := Nat × Nat) (fun s => ⟨[(0, LL ls), (1, L t), (2, .clo 122 0 []), (8, I (ls.length : Int)), (9, I (s.1 : Nat)), (10, I (s.2 : Nat))], []⟩) (fun s => s.1 ≤ c ∧ c ≤ s.2 ∧ s.2 ≤ ls.length) (fun s => s.2 - s.1) (0, ls.length) ?_ ?_ ?_
  · exact ⟨Nat.zero_le _, hc, Nat.le_refl _⟩
  ·
    refine Le_sub C _ _ ⟨rfl, ⟨rfl, ⟨rfl, ⟨rfl, ⟨rfl, ⟨rfl, trivial⟩⟩⟩⟩⟩⟩ trivial rfl rfl
  ·
    intro s hR
    obtain ⟨hi, hj, hk⟩ := hR
    refine J_seq ?_
    refine J_seq ?_
    refine J_region ?_
    refine jl rfl rfl (ltn hn rfl) (pure_move rfl rfl) ?_
    refine jl rfl rfl (ltn hn rfl) (pure_move rfl rfl) ?_
    refine jl rfl rfl (ltn hn rfl) (pure_lss rfl rfl rfl) ?_
    refine JL_nil ?_
    refine J_cond_p rfl (fun h1 => ?_) (fun h1 => ?_)
    ·
      refine J_skip ?_
      refine J_block ?_
      refine J_seq ?_
      refine J_join (S := ⟨[(0, LL ls), (1, L t), (2, .clo 122 0 []), (8, I (ls.length : Int)), (9, I (s.1 : Nat)), (10, I (s.2 : Nat)), (11, I ((s.1 + s.2) / 2 : Nat))], []⟩) ?_ ?_
      ·
        refine J_region ?_
        refine jl rfl rfl (ltn hn rfl) (pure_move rfl rfl) ?_
        refine jl rfl rfl (ltn hn rfl) (pure_move rfl rfl) ?_
        refine jl rfl rfl (ltn hn rfl) (pure_add rfl rfl rfl (by omega)) ?_
        refine jl rfl rfl (ltn hn rfl) (p_conv rfl rfl) ?_
        refine jl rfl rfl (ltn hn rfl) (p_shr rfl rfl rfl (by omega)) ?_
        refine jl rfl rfl (ltn hn rfl) (p_conv rfl rfl) ?_
        refine jl rfl rfl (ltn hn rfl) (pure_assign rfl rfl) ?_
        refine JL_nil ?_
        refine Le_sub C _ _ ⟨rfl, ⟨rfl, ⟨rfl, ⟨rfl, ⟨rfl, ⟨rfl, ⟨(eqv rfl (vi (mid_u (by omega)))), trivial⟩⟩⟩⟩⟩⟩⟩ trivial rfl rfl
      ·
        refine J_seq ?_
        refine J_region ?_
        refine jl rfl rfl (ltn hn rfl) (pure_move rfl rfl) ?_
        refine jl rfl rfl (ltn hn rfl) (pure_move rfl rfl) ?_
        refine jl rfl rfl (ltn hn rfl) (pure_move rfl rfl) ?_
        refine jl rfl rfl (ltn hn rfl) (p_idx rfl rfl rfl (by omega) (mget (by omega))) ?_
        refine jl rfl rfl (ltn hn rfl) (p_ld rfl rfl rfl) ?_
        refine jl rfl rfl (ltn hn rfl) (pure_move rfl rfl) ?_
        refine jl_o rfl (op_callE (callsS (CmpL_spec (gi ls (((s.1 + s.2) / 2 : Nat) : Int)) t (hb _ (gi_mem (by omega))) ht) (enters_clo0 (args := [.tmp 28, .tmp 29]) rfl rfl Tryz.func122 rfl rfl ⟨rfl, ⟨rfl, trivial⟩⟩) rfl) rfl (ltn hn rfl) rfl rfl) ?_
        refine jl rfl rfl (ltn hn rfl) (pure_lss rfl rfl rfl) ?_
        refine JL_nil ?_
        refine J_cond_p rfl (fun h2 => ?_) (fun h2 => ?_)
        ·
          refine J_region ?_
          refine jl rfl rfl (ltn hn rfl) (pure_move rfl rfl) ?_
          refine jl rfl rfl (ltn hn rfl) (pure_add rfl rfl rfl (by omega)) ?_
          refine jl rfl rfl (ltn hn rfl) (pure_assign rfl rfl) ?_
          refine JL_nil ?_
          refine ⟨((s.1 + s.2) / 2 + 1, s.2), ?_, ?_, ?_⟩
          · have := (hp ((s.1 + s.2) / 2) (by omega)).1 h2; exact ⟨by simp only []; omega, by simp only []; omega, by simp only []; omega⟩
          · simp only []; omega
          ·
            refine Le_sub C _ _ ⟨rfl, ⟨rfl, ⟨rfl, ⟨rfl, ⟨(eqv rfl (vi (by omega))), ⟨rfl, trivial⟩⟩⟩⟩⟩⟩ trivial rfl rfl
        ·
          refine J_region ?_
          refine jl rfl rfl (ltn hn rfl) (pure_move rfl rfl) ?_
          refine jl rfl rfl (ltn hn rfl) (pure_assign rfl rfl) ?_
          refine JL_nil ?_
          refine ⟨(s.1, (s.1 + s.2) / 2), ?_, ?_, ?_⟩
          · have := mt (hp ((s.1 + s.2) / 2) (by omega)).2 h2; exact ⟨by simp only []; omega, by simp only []; omega, by simp only []; omega⟩
          · simp only []; omega
          ·
            refine Le_sub C _ _ ⟨rfl, ⟨rfl, ⟨rfl, ⟨rfl, ⟨rfl, ⟨rfl, trivial⟩⟩⟩⟩⟩⟩ trivial rfl rfl
    ·
      refine J_exit ?_
      refine J_seq ?_
      refine J_region ?_
      refine jl rfl rfl (ltn hn rfl) (pure_move rfl rfl) ?_
      refine jl rfl rfl (ltn hn rfl) (pure_move rfl rfl) ?_
      refine jl rfl rfl (ltn hn rfl) (pure_move rfl rfl) ?_
      refine jl rfl rfl (ltn hn rfl) (pure_lss rfl rfl rfl) ?_
      refine jl rfl rfl (ltn hn rfl) (pure_move rfl rfl) ?_
      refine jl_split rfl rfl rfl (fun h3 => ?_) (fun h3 => ?_)
      ·
        refine jl rfl rfl (ltn hn rfl) (pure_move rfl rfl) ?_
        refine jl rfl rfl (ltn hn rfl) (pure_move rfl rfl) ?_
        refine jl rfl rfl (ltn hn rfl) (pure_move rfl rfl) ?_
        refine jl rfl rfl (ltn hn rfl) (p_idx rfl rfl rfl (by omega) (mget (by omega))) ?_
        refine jl rfl rfl (ltn hn rfl) (p_ld rfl rfl rfl) ?_
        refine jl rfl rfl (ltn hn rfl) (pure_move rfl rfl) ?_
        refine jl_o rfl (op_callE (callsS (CmpL_spec (gi ls ((s.1 : Nat) : Int)) t (hb _ (gi_mem (by omega))) ht) (enters_clo0 (args := [.tmp 44, .tmp 45]) rfl rfl Tryz.func122 rfl rfl ⟨rfl, ⟨rfl, trivial⟩⟩) rfl) rfl (ltn hn rfl) rfl rfl) ?_
        refine jl rfl rfl (ltn hn rfl) (pure_eql rfl rfl rfl) ?_
        refine jl rfl rfl (ltn hn rfl) (pure_pick_t rfl rfl rfl) ?_
        refine jl rfl rfl (ltn hn rfl) (pure_assign rfl rfl) ?_
        refine jl rfl rfl (ltn hn rfl) (pure_assign rfl rfl) ?_
        refine JL_nil ?_
        refine J_ret ?_
        exact Fin_two rfl (Le_sub C _ _ ⟨(eqv rfl (vi (by omega))), (eqv rfl (vb (by have e : c = s.1 := (by omega); subst e; simp_all; try (intro h; omega)))), trivial⟩ trivial rfl rfl) rfl
      ·
        refine jl_s rfl rfl (ltn hn rfl) ?_
        refine jl_s rfl rfl (ltn hn rfl) ?_
        refine jl_s rfl rfl (ltn hn rfl) ?_
        refine jl_s rfl rfl (ltn hn rfl) ?_
        refine jl_s rfl rfl (ltn hn rfl) ?_
        refine jl_s rfl rfl (ltn hn rfl) ?_
        refine jl_s rfl rfl (ltn hn rfl) ?_
        refine jl_s rfl rfl (ltn hn rfl) ?_
        refine jl rfl rfl (ltn hn rfl) (pure_pick_f rfl rfl rfl) ?_
        refine jl rfl rfl (ltn hn rfl) (pure_assign rfl rfl) ?_
        refine jl rfl rfl (ltn hn rfl) (pure_assign rfl rfl) ?_
        refine JL_nil ?_
        refine J_ret ?_
        exact Fin_two rfl (Le_sub C _ _ ⟨(eqv rfl (vi (by omega))), (eqv rfl (vb (by have e : c = s.1 := (by omega); subst e; simp_all; try (intro h; omega)))), trivial⟩ trivial rfl rfl) rfl
theorem Reverse_spec (l : List (List Int)) (hl : l.length < 2^40) : SpecM Tryz.prog 110 [(2000000, Ow 37 1 cL l)] [.own 2000000 []] (.tup []) [(2000000, Ow 37 1 cL l.reverse)] := by
  refine SpecM.intro (c := _) Tryz.func110 rfl (Nat.le_of_ble_eq_true rfl) (fun C hC hfx => ?_)
  have hn : C.n = 28 := hC
  refine (show J _ _ _ _ (⟨[(0, .own 2000000 [])], [(2000000, Ow 37 1 cL l)]⟩ : AS) from ?_)
  refine J_seq ?_
  refine J_region ?_
  refine jl rfl rfl (ltn hn rfl) (pure_move rfl rfl) ?_
  refine jl rfl rfl (ltn hn rfl) (p_len_om rfl rfl rfl) ?_
  refine jl rfl rfl (ltn hn rfl) (pure_sub rfl rfl rfl (by omega)) ?_
  refine jl rfl rfl (ltn hn rfl) (pure_assign rfl rfl) ?_
  refine jl rfl rfl (ltn hn rfl) (pure_assign rfl rfl) ?_
  refine JL_nil ?_
  refine J_block ?_
  have hrl := revN_len l
  refine J_loop (X := Nat) (fun i => ⟨[(0, .own 2000000 []), (2, I (i : Nat)), (3, I ((l.length : Int) - 1 - (i : Nat)))], [(2000000, Ow 37 1 cL (revN l i))]⟩) (fun i => 2 * i ≤ l.length + 1) (fun i => l.length + 1 - 2 * i) 0 ?_ ?_ ?_
  · omega
  ·
    refine Le_sub C _ _ ⟨rfl, ⟨rfl, ⟨(eqv rfl (vi (by omega))), trivial⟩⟩⟩ ⟨rfl, trivial⟩ rfl rfl
  ·
    intro i hi
    refine J_seq ?_
    refine J_seq ?_
    refine J_region ?_
    refine jl rfl rfl (ltn hn rfl) (pure_move rfl rfl) ?_
    refine jl rfl rfl (ltn hn rfl) (pure_move rfl rfl) ?_
    refine jl rfl rfl (ltn hn rfl) (pure_lss rfl rfl rfl) ?_
    refine JL_nil ?_
    refine J_cond_p rfl (fun h1 => ?_) (fun h1 => ?_)
    ·
      refine J_skip ?_
      refine J_seq ?_
      refine J_block ?_
      refine J_mixed [2000000] follows_mixed (by kernel_rfl) ?_
      refine JD1_read 0 rfl (by kernel_rfl) (by kernel_rfl) (by kernel_rfl) rfl rfl (ltn hn rfl) (pure_move rfl rfl) rfl ?_
      refine JD1_read 1 rfl (by kernel_rfl) (by kernel_rfl) (by kernel_rfl) rfl rfl (ltn hn rfl) (pure_move rfl rfl) rfl ?_
      refine JD1_read 2 rfl (by kernel_rfl) (by kernel_rfl) (by kernel_rfl) rfl rfl (ltn hn rfl) (pure_move rfl rfl) rfl ?_
      refine JD1_read 3 rfl (by kernel_rfl) (by kernel_rfl) (by kernel_rfl) rfl rfl (ltn hn rfl) (pure_move rfl rfl) rfl ?_
      refine JD1_read 4 rfl (by kernel_rfl) (by kernel_rfl) (by kernel_rfl) rfl rfl (ltn hn rfl) (pure_move rfl rfl) rfl ?_
      refine JD1_read 5 rfl (by kernel_rfl) (by kernel_rfl) (by kernel_rfl) rfl rfl (ltn hn rfl) (pure_move rfl rfl) rfl ?_
      refine JD1_read 6 rfl (by kernel_rfl) (by kernel_rfl) (by kernel_rfl) rfl rfl (ltn hn rfl) (p_idx_own_m rfl rfl rfl rfl (by have hri := hrl i; first | omega | (simp only [List.length_set]; omega)) (by have hri := hrl i; first | omega | (simp only [List.length_set]; omega))) rfl ?_
      refine JD1_read 8 rfl (by kernel_rfl) (by kernel_rfl) (by kernel_rfl) rfl rfl (ltn hn rfl) (pure_move rfl rfl) rfl ?_
      refine JD1_read 9 rfl (by kernel_rfl) (by kernel_rfl) (by kernel_rfl) rfl rfl (ltn hn rfl) (pure_move rfl rfl) rfl ?_
      refine JD1_read 10 rfl (by kernel_rfl) (by kernel_rfl) (by kernel_rfl) rfl rfl (ltn hn rfl) (p_idx_own_m rfl rfl rfl rfl (by have hri := hrl i; first | omega | (simp only [List.length_set]; omega)) (by have hri := hrl i; first | omega | (simp only [List.length_set]; omega))) rfl ?_
      refine JD1_go ?_
      refine JD_two 7 11 rfl rfl (by kernel_rfl) rfl rfl (OpD.of_pure rfl (ltn hn rfl) (p_ld_o rfl rfl rfl rfl (mget (by have hri := hrl i; first | omega | (simp only [List.length_set]; omega))) rfl)) rfl (OpD.of_pure rfl (ltn hn rfl) (p_ld_o rfl rfl rfl rfl (mget (by have hri := hrl i; first | omega | (simp only [List.length_set]; omega))) rfl)) rfl ?_ ?_
      ·
        refine JD_only 11 rfl (by kernel_rfl) rfl (OpD.of_pure rfl (ltn hn rfl) (p_ld_o rfl rfl rfl rfl (mget (by have hri := hrl i; first | omega | (simp only [List.length_set]; omega))) rfl)) rfl ?_
        refine JD_still 12 rfl (by kernel_rfl) (by kernel_rfl) (by kernel_rfl) rfl rfl (ltn hn rfl) (p_idx_own_m rfl rfl rfl rfl (by have hri := hrl i; first | omega | (simp only [List.length_set]; omega)) (by have hri := hrl i; first | omega | (simp only [List.length_set]; omega))) ?_
        refine JD_only 13 rfl (by kernel_rfl) rfl (@op_store_row_m _ _ _ _ _ cL _ _ _ _ _ _ _ _ _ SzT.out rfl rfl rfl rfl rfl rfl rfl rfl (fun _ => rfl) (by have hri := hrl i; first | omega | (simp only [List.length_set]; omega))) rfl ?_
        refine JD_still 14 rfl (by kernel_rfl) (by kernel_rfl) (by kernel_rfl) rfl rfl (ltn hn rfl) (p_idx_own_m rfl rfl rfl rfl (by have hri := hrl i; first | omega | (simp only [List.length_set]; omega)) (by have hri := hrl i; first | omega | (simp only [List.length_set]; omega))) ?_
        refine JD_only 15 rfl (by kernel_rfl) rfl (@op_store_row_m _ _ _ _ _ cL _ _ _ _ _ _ _ _ _ SzT.out rfl rfl rfl rfl rfl rfl rfl rfl (fun _ => rfl) (by have hri := hrl i; first | omega | (simp only [List.length_set]; omega))) rfl ?_
        refine JD_done (by kernel_rfl) ?_
        refine J_region ?_
        refine jl rfl rfl (ltn hn rfl) (pure_move rfl rfl) ?_
        refine jl rfl rfl (ltn hn rfl) (pure_add rfl rfl rfl (by omega)) ?_
        refine jl rfl rfl (ltn hn rfl) (pure_move rfl rfl) ?_
        refine jl rfl rfl (ltn hn rfl) (pure_sub rfl rfl rfl (by omega)) ?_
        refine jl rfl rfl (ltn hn rfl) (pure_assign rfl rfl) ?_
        refine jl rfl rfl (ltn hn rfl) (pure_assign rfl rfl) ?_
        refine JL_nil ?_
        have hri := hrl i
        refine ⟨i + 1, ?_, ?_, ?_⟩
        · omega
        · omega
        ·
          refine Le_sub C _ _ ⟨rfl, ⟨(eqv rfl (vi (by omega))), ⟨(eqv rfl (vi (by omega))), trivial⟩⟩⟩ ⟨rfl, trivial⟩ rfl rfl
      ·
        refine JD_only 7 rfl (by kernel_rfl) rfl (OpD.of_pure rfl (ltn hn rfl) (p_ld_o rfl rfl rfl rfl (mget (by have hri := hrl i; first | omega | (simp only [List.length_set]; omega))) rfl)) rfl ?_
        refine JD_still 12 rfl (by kernel_rfl) (by kernel_rfl) (by kernel_rfl) rfl rfl (ltn hn rfl) (p_idx_own_m rfl rfl rfl rfl (by have hri := hrl i; first | omega | (simp only [List.length_set]; omega)) (by have hri := hrl i; first | omega | (simp only [List.length_set]; omega))) ?_
        refine JD_only 13 rfl (by kernel_rfl) rfl (@op_store_row_m _ _ _ _ _ cL _ _ _ _ _ _ _ _ _ SzT.out rfl rfl rfl rfl rfl rfl rfl rfl (fun _ => rfl) (by have hri := hrl i; first | omega | (simp only [List.length_set]; omega))) rfl ?_
        refine JD_still 14 rfl (by kernel_rfl) (by kernel_rfl) (by kernel_rfl) rfl rfl (ltn hn rfl) (p_idx_own_m rfl rfl rfl rfl (by have hri := hrl i; first | omega | (simp only [List.length_set]; omega)) (by have hri := hrl i; first | omega | (simp only [List.length_set]; omega))) ?_
        refine JD_only 15 rfl (by kernel_rfl) rfl (@op_store_row_m _ _ _ _ _ cL _ _ _ _ _ _ _ _ _ SzT.out rfl rfl rfl rfl rfl rfl rfl rfl (fun _ => rfl) (by have hri := hrl i; first | omega | (simp only [List.length_set]; omega))) rfl ?_
        refine JD_done (by kernel_rfl) ?_
        refine J_region ?_
        refine jl rfl rfl (ltn hn rfl) (pure_move rfl rfl) ?_
        refine jl rfl rfl (ltn hn rfl) (pure_add rfl rfl rfl (by omega)) ?_
        refine jl rfl rfl (ltn hn rfl) (pure_move rfl rfl) ?_
        refine jl rfl rfl (ltn hn rfl) (pure_sub rfl rfl rfl (by omega)) ?_
        refine jl rfl rfl (ltn hn rfl) (pure_assign rfl rfl) ?_
        refine jl rfl rfl (ltn hn rfl) (pure_assign rfl rfl) ?_
        refine JL_nil ?_
        have hri := hrl i
        refine ⟨i + 1, ?_, ?_, ?_⟩
        · omega
        · omega
        ·
          refine Le_sub C _ _ ⟨rfl, ⟨(eqv rfl (vi (by omega))), ⟨(eqv rfl (vi (by omega))), trivial⟩⟩⟩ ⟨rfl, trivial⟩ rfl rfl
    ·
      refine J_exit ?_
      exact Fin_none rfl (Le_sub C _ _ trivial ⟨(eqv rfl (by rw [revN_all hi (by omega)])), trivial⟩ rfl rfl)
end Go.Proofs.YtmiijpobhajfmaaGreat.J
namespace Go.Proofs.YtmiijpobhajfmaaGreat.J
open Go Go.RowKit
set_option linter.unusedVariables false
set_option linter.unusedSimpArgs false

/-- The list without elements that equal the one before. -/
def ddS (a : List (List Int)) (x : List Int) : List (List Int) := if a.getLast? = some x then a else a ++ [x]
def dd (l : List (List Int)) : List (List Int) := l.foldl ddS []
theorem dd_snoc (l : List (List Int)) (x : List Int) : dd (l ++ [x]) = ddS (dd l) x := by simp [dd]
theorem dd_last (l : List (List Int)) : (dd l).getLast? = l.getLast? := by
  rcases List.eq_nil_or_concat l with rfl | ⟨r, x, rfl⟩
  · rfl
  · rw [List.concat_eq_append, dd_snoc, ddS]
    split
    · rename_i h; rw [h]; simp
    · simp
theorem last_take {l : List (List Int)} {k : Nat} (h0 : 1 ≤ k) (h : k ≤ l.length) : (l.take k).getLast? = some (gi l ((k : Int) - 1)) := by
  have e : ((k : Int) - 1) = ((k - 1 : Nat) : Int) := by omega
  rw [e, gi_natG (by omega), List.getLast?_eq_getElem?, List.length_take, List.getElem?_take, if_pos (by omega), List.getElem?_eq_getElem (by omega)]
  congr 2; omega
theorem dd_step {l : List (List Int)} {k : Nat} (h0 : 1 ≤ k) (h : k < l.length) : dd (l.take (k + 1)) = if gi l ((k : Int) - 1) = gi l (k : Int) then dd (l.take k) else dd (l.take k) ++ [gi l (k : Int)] := by
  rw [take_gi (l := l) (i := k) h, dd_snoc, ddS, dd_last, last_take h0 (by omega)]
  by_cases e : gi l ((k : Int) - 1) = gi l (k : Int)
  · rw [if_pos (by rw [e]), if_pos e]
  · rw [if_neg (by simpa using e), if_neg e]
theorem dd_short {l : List (List Int)} (h : l.length < 2) : dd l = l := by
  rcases l with _ | ⟨a, _ | ⟨b, r⟩⟩
  · rfl
  · rfl
  · simp at h; omega
theorem nd_t {p : Prop} [Decidable p] (h : (!decide p) = true) : ¬ p := by simpa using h
theorem nd_f {p : Prop} [Decidable p] (h : (!decide p) = false) : p := by simpa using h
theorem LL_part {r q : List (List Int)} {k : Nat} (h : r.take k = q) : AV.sl 1 (((r.map cL).take k).drop 0) = LL q := by
  subst h; simp [LL]
theorem take_clr {r : List (List Int)} {k n : Nat} (h : k ≤ r.length) : (r.take k ++ List.replicate (n - k) [] ++ r.drop n).take k = r.take k := by
  rw [List.append_assoc, List.take_append_of_le_length (by rw [List.length_take]; omega), List.take_take, Nat.min_self]
theorem set_take {r : List (List Int)} {k : Nat} (h : k < r.length) (v : List Int) : (r.set (k : Int).toNat v).take (k + 1) = r.take k ++ [v] := by
  rw [Int.toNat_natCast, List.take_set, List.take_succ_eq_append_getElem h, List.set_append_right _ _ (by rw [List.length_take]; omega)]
  simp [Nat.min_eq_left (Nat.le_of_lt h)]

theorem Compact_spec (l : List (List Int)) (hl : l.length < 2^40) (hb : ∀ x ∈ l, x.length < 2^40) : SpecM Tryz.prog 132 [(2000000, Ow 37 1 cL l)] [.own 2000000 [], .clo 97 0 []] (LL (dd l)) [] := by
  refine SpecM.intro (c := _) Tryz.func132 rfl (Nat.le_of_ble_eq_true rfl) (fun C hC hfx => ?_)
  have hn : C.n = 66 := hC
  refine (show J _ _ _ _ (⟨[(0, .own 2000000 []), (1, .clo 97 0 [])], [(2000000, Ow 37 1 cL l)]⟩ : AS) from ?_)
  refine J_seq ?_
  refine J_region ?_
  refine jl rfl rfl (ltn hn rfl) (pure_assign rfl rfl) ?_
  refine JL_nil ?_
  refine J_seq ?_
  refine J_seq ?_
  refine J_region ?_
  refine jl rfl rfl (ltn hn rfl) (pure_move rfl rfl) ?_
  refine jl rfl rfl (ltn hn rfl) (p_len_om rfl rfl rfl) ?_
  refine jl rfl rfl (ltn hn rfl) (pure_lss rfl rfl rfl) ?_
  refine JL_nil ?_
  refine J_cond_p rfl (fun h1 => ?_) (fun h1 => ?_)
  ·
    refine J_seq ?_
    refine J_region ?_
    refine jl rfl rfl (ltn hn rfl) (pure_move rfl rfl) ?_
    refine jl rfl rfl (ltn hn rfl) (pure_assign rfl rfl) ?_
    refine JL_nil ?_
    refine J_ret ?_
    exact Fin_one rfl (Le.trans (Le_frz 2000000 rfl rfl) (Le_one rfl (congrArg LL (dd_short (by omega)).symm) rfl))
  ·
    refine J_skip ?_
    refine J_seq ?_
    refine J_seq ?_
    refine J_region ?_
    refine jl rfl rfl (ltn hn rfl) (pure_assign rfl rfl) ?_
    refine JL_nil ?_
    refine J_block ?_
    refine J_loop (X := Nat) (fun k => ⟨[(0, .own 2000000 []), (1, .clo 97 0 []), (5, I (k : Nat))], [(2000000, Ow 37 1 cL l)]⟩) (fun k => 1 ≤ k ∧ k ≤ l.length ∧ dd (l.take k) = l.take k) (fun k => l.length - k) 1 ?_ ?_ ?_
    · exact ⟨by omega, by omega, dd_short (by simp; omega)⟩
    ·
      refine Le_sub C _ _ ⟨rfl, ⟨rfl, ⟨rfl, trivial⟩⟩⟩ ⟨rfl, trivial⟩ rfl rfl
    ·
      intro k hR
      obtain ⟨h0, hk, hs⟩ := hR
      refine J_seq ?_
      refine J_seq ?_
      refine J_region ?_
      refine jl rfl rfl (ltn hn rfl) (pure_move rfl rfl) ?_
      refine jl rfl rfl (ltn hn rfl) (pure_move rfl rfl) ?_
      refine jl rfl rfl (ltn hn rfl) (p_len_om rfl rfl rfl) ?_
      refine jl rfl rfl (ltn hn rfl) (pure_lss rfl rfl rfl) ?_
      refine JL_nil ?_
      refine J_cond_p rfl (fun h2 => ?_) (fun h2 => ?_)
      ·
        refine J_skip ?_
        refine J_seq ?_
        refine J_block ?_
        refine J_seq ?_
        refine J_mixed [28] follows_mixed (by kernel_rfl) ?_
        refine JD1_read 0 rfl (by kernel_rfl) (by kernel_rfl) (by kernel_rfl) rfl rfl (ltn hn rfl) (pure_move rfl rfl) rfl ?_
        refine JD1_read 1 rfl (by kernel_rfl) (by kernel_rfl) (by kernel_rfl) rfl rfl (ltn hn rfl) (pure_move rfl rfl) rfl ?_
        refine JD1_read 2 rfl (by kernel_rfl) (by kernel_rfl) (by kernel_rfl) rfl rfl (ltn hn rfl) (pure_move rfl rfl) rfl ?_
        refine JD1_read 3 rfl (by kernel_rfl) (by kernel_rfl) (by kernel_rfl) rfl rfl (ltn hn rfl) (p_idx_own_m rfl rfl rfl rfl (by first | omega | (simp only [List.length_set]; omega)) (by first | omega | (simp only [List.length_set]; omega))) rfl ?_
        refine JD1_read 4 rfl (by kernel_rfl) (by kernel_rfl) (by kernel_rfl) rfl rfl (ltn hn rfl) (p_ld_o rfl rfl rfl rfl (mget (by first | omega | (simp only [List.length_set]; omega))) rfl) rfl ?_
        refine JD1_read 5 rfl (by kernel_rfl) (by kernel_rfl) (by kernel_rfl) rfl rfl (ltn hn rfl) (pure_move rfl rfl) rfl ?_
        refine JD1_read 6 rfl (by kernel_rfl) (by kernel_rfl) (by kernel_rfl) rfl rfl (ltn hn rfl) (pure_move rfl rfl) rfl ?_
        refine JD1_read 7 rfl (by kernel_rfl) (by kernel_rfl) (by kernel_rfl) rfl rfl (ltn hn rfl) (pure_sub rfl rfl rfl (by omega)) rfl ?_
        refine JD1_read 8 rfl (by kernel_rfl) (by kernel_rfl) (by kernel_rfl) rfl rfl (ltn hn rfl) (p_idx_own_m rfl rfl rfl rfl (by first | omega | (simp only [List.length_set]; omega)) (by first | omega | (simp only [List.length_set]; omega))) rfl ?_
        refine JD1_read 9 rfl (by kernel_rfl) (by kernel_rfl) (by kernel_rfl) rfl rfl (ltn hn rfl) (p_ld_o rfl rfl rfl rfl (mget (by first | omega | (simp only [List.length_set]; omega))) rfl) rfl ?_
        refine JD1_go ?_
        refine JD_only 10 rfl (by kernel_rfl) rfl (op_callE (callsS (EqualL_spec (gi l (k : Nat)) (gi l ((k : Nat) - 1 : Int)) (hb _ (gi_mem (by omega))) (hb _ (by rw [show ((k : Int) - 1) = ((k - 1 : Nat) : Int) by omega]; exact gi_mem (by omega)))) (enters_clo0 (args := [.tmp 22, .tmp 27]) rfl rfl Tryz.func97 rfl rfl ⟨rfl, ⟨rfl, trivial⟩⟩) rfl) rfl (ltn hn rfl) rfl rfl) rfl ?_
        refine JD_done (by kernel_rfl) ?_
        refine J_cond rfl (fun h3 => ?_) (fun h3 => ?_)
        ·
          refine J_seq ?_
          refine J_region ?_
          refine jl rfl rfl (ltn hn rfl) (pure_move rfl rfl) ?_
          refine jl rfl rfl (ltn hn rfl) (pure_move rfl rfl) ?_
          refine jl rfl rfl (ltn hn rfl) (p_part rfl SlT.und (SlT.siz 25) rfl rfl rfl rfl rfl (by first | omega | (simp only [Tr.len, List.length_map]; omega) | (simp [Tr.len]; omega)) (by first | omega | (simp only [Tr.len, List.length_map]; omega) | (simp [Tr.len]; omega)) (by first | omega | (simp only [Tr.len, List.length_map]; omega) | (simp [Tr.len]; omega))) ?_
          refine jl rfl rfl (ltn hn rfl) (pure_assign rfl rfl) ?_
          refine JL_nil ?_
          refine J_seq ?_
          refine J_seq ?_
          refine J_region ?_
          refine jl rfl rfl (ltn hn rfl) (pure_assign rfl rfl) ?_
          refine JL_nil ?_
          refine J_block ?_
          refine J_loop (X := Nat × Nat × List (List Int)) (fun t => ⟨[(0, .own 2000000 []), (1, .clo 97 0 []), (5, I (t.1 : Nat)), (6, .part 2000000 [] 1 k l.length), (7, I (t.2.1 : Nat))], [(2000000, Ow 37 1 cL t.2.2)]⟩) (fun t => 1 ≤ t.2.1 ∧ k + t.2.1 ≤ l.length ∧ t.2.2.length = l.length ∧ t.1 + 1 ≤ k + t.2.1 ∧ t.2.2.take t.1 = dd (l.take (k + t.2.1)) ∧ ∀ p : Nat, k + t.2.1 ≤ p + 1 → gi t.2.2 (p : Int) = gi l (p : Int)) (fun t => l.length - t.2.1) (k, 1, l) ?_ ?_ ?_
          · exact ⟨by simp, by simp only []; omega, rfl, by simp, by simp only []; rw [dd_step h0 (by omega), if_pos (of_decide_eq_true h3).symm, hs], fun p _ => rfl⟩
          ·
            refine Le_sub C _ _ ⟨rfl, ⟨rfl, ⟨rfl, ⟨(eqv rfl (by simp [Tr.len])), ⟨rfl, trivial⟩⟩⟩⟩⟩ ⟨rfl, trivial⟩ rfl rfl
          ·
            intro t hR
            obtain ⟨ha, hc, he, hf, hg, hd⟩ := hR
            refine J_seq ?_
            refine J_seq ?_
            refine J_region ?_
            refine jl rfl rfl (ltn hn rfl) (pure_move rfl rfl) ?_
            refine jl rfl rfl (ltn hn rfl) (pure_move rfl rfl) ?_
            refine jl rfl rfl (ltn hn rfl) (p_len_part rfl SlT.und rfl) ?_
            refine jl rfl rfl (ltn hn rfl) (pure_lss rfl rfl rfl) ?_
            refine JL_nil ?_
            refine J_cond_p rfl (fun h4 => ?_) (fun h4 => ?_)
            ·
              have q1 : gi t.2.2 ((k + (t.2.1 : Int).toNat : Nat) : Int) = gi l ((k + t.2.1 : Nat) : Int) := by rw [Int.toNat_natCast]; exact hd _ (by omega)
              have q2 : gi t.2.2 ((k + ((t.2.1 : Int) - 1).toNat : Nat) : Int) = gi l (((k + t.2.1 : Nat) : Int) - 1) := by rw [hd _ (by omega)]; congr 1; omega
              have q3 : (gi t.2.2 ((k + (t.2.1 : Int).toNat : Nat) : Int)).length < 2 ^ 40 := by rw [q1]; exact hb _ (gi_mem (by omega))
              have q4 : (gi t.2.2 ((k + ((t.2.1 : Int) - 1).toNat : Nat) : Int)).length < 2 ^ 40 := by rw [q2, show ((k + t.2.1 : Nat) : Int) - 1 = ((k + t.2.1 - 1 : Nat) : Int) by omega]; exact hb _ (gi_mem (by omega))
              refine J_skip ?_
              refine J_seq ?_
              refine J_block ?_
              refine J_seq ?_
              refine J_mixed [48] follows_mixed (by kernel_rfl) ?_
              refine JD1_read 0 rfl (by kernel_rfl) (by kernel_rfl) (by kernel_rfl) rfl rfl (ltn hn rfl) (pure_move rfl rfl) rfl ?_
              refine JD1_read 1 rfl (by kernel_rfl) (by kernel_rfl) (by kernel_rfl) rfl rfl (ltn hn rfl) (pure_move rfl rfl) rfl ?_
              refine JD1_read 2 rfl (by kernel_rfl) (by kernel_rfl) (by kernel_rfl) rfl rfl (ltn hn rfl) (pure_move rfl rfl) rfl ?_
              refine JD1_read 3 rfl (by kernel_rfl) (by kernel_rfl) (by kernel_rfl) rfl rfl (ltn hn rfl) (p_idx_part rfl SlT.und (SlT.siz 25) rfl rfl rfl rfl (by first | omega | (simp only [List.length_set]; omega)) (by first | omega | (simp only [List.length_set]; omega))) rfl ?_
              refine JD1_read 4 rfl (by kernel_rfl) (by kernel_rfl) (by kernel_rfl) rfl rfl (ltn hn rfl) (p_ld_o rfl rfl rfl rfl (mgetN (by first | omega | (simp only [List.length_set]; omega))) rfl) rfl ?_
              refine JD1_read 5 rfl (by kernel_rfl) (by kernel_rfl) (by kernel_rfl) rfl rfl (ltn hn rfl) (pure_move rfl rfl) rfl ?_
              refine JD1_read 6 rfl (by kernel_rfl) (by kernel_rfl) (by kernel_rfl) rfl rfl (ltn hn rfl) (pure_move rfl rfl) rfl ?_
              refine JD1_read 7 rfl (by kernel_rfl) (by kernel_rfl) (by kernel_rfl) rfl rfl (ltn hn rfl) (pure_sub rfl rfl rfl (by omega)) rfl ?_
              refine JD1_read 8 rfl (by kernel_rfl) (by kernel_rfl) (by kernel_rfl) rfl rfl (ltn hn rfl) (p_idx_part rfl SlT.und (SlT.siz 25) rfl rfl rfl rfl (by first | omega | (simp only [List.length_set]; omega)) (by first | omega | (simp only [List.length_set]; omega))) rfl ?_
              refine JD1_read 9 rfl (by kernel_rfl) (by kernel_rfl) (by kernel_rfl) rfl rfl (ltn hn rfl) (p_ld_o rfl rfl rfl rfl (mgetN (by first | omega | (simp only [List.length_set]; omega))) rfl) rfl ?_
              refine JD1_go ?_
              refine JD_only 10 rfl (by kernel_rfl) rfl (op_callE (callsS (EqualL_spec (gi t.2.2 ((k + (t.2.1 : Int).toNat : Nat) : Int)) (gi t.2.2 ((k + ((t.2.1 : Int) - 1).toNat : Nat) : Int)) q3 q4) (enters_clo0 (args := [.tmp 42, .tmp 47]) rfl rfl Tryz.func97 rfl rfl ⟨rfl, ⟨rfl, trivial⟩⟩) rfl) rfl (ltn hn rfl) rfl rfl) rfl ?_
              refine JD_still 11 rfl (by kernel_rfl) (by kernel_rfl) (by kernel_rfl) rfl rfl (ltn hn rfl) (pure_not_b rfl rfl) ?_
              refine JD_done (by kernel_rfl) ?_
              refine J_cond rfl (fun h5 => ?_) (fun h5 => ?_)
              ·
                refine J_seq ?_
                refine J_region ?_
                refine jl rfl rfl (ltn hn rfl) (pure_move rfl rfl) ?_
                refine jl rfl rfl (ltn hn rfl) (pure_move rfl rfl) ?_
                refine jl rfl rfl (ltn hn rfl) (pure_move rfl rfl) ?_
                refine jl rfl rfl (ltn hn rfl) (pure_move rfl rfl) ?_
                refine jl rfl rfl (ltn hn rfl) (p_idx_part rfl SlT.und (SlT.siz 25) rfl rfl rfl rfl (by first | omega | (simp only [List.length_set]; omega)) (by first | omega | (simp only [List.length_set]; omega))) ?_
                refine jl rfl rfl (ltn hn rfl) (p_ld_o rfl rfl rfl rfl (mgetN (by first | omega | (simp only [List.length_set]; omega))) rfl) ?_
                refine jl rfl rfl (ltn hn rfl) (p_idx_own_m rfl rfl rfl rfl (by first | omega | (simp only [List.length_set]; omega)) (by first | omega | (simp only [List.length_set]; omega))) ?_
                refine jl_o rfl (@op_store_row_m _ _ _ _ _ cL _ _ _ _ _ _ _ _ _ SzT.out rfl rfl rfl rfl rfl rfl rfl rfl (fun _ => rfl) (by first | omega | (simp only [List.length_set]; omega))) ?_
                refine JL_nil ?_
                refine J_region ?_
                refine jl rfl rfl (ltn hn rfl) (pure_move rfl rfl) ?_
                refine jl rfl rfl (ltn hn rfl) (pure_add rfl rfl rfl (by omega)) ?_
                refine jl rfl rfl (ltn hn rfl) (pure_assign rfl rfl) ?_
                refine JL_nil ?_
                refine J_region ?_
                refine jl rfl rfl (ltn hn rfl) (pure_move rfl rfl) ?_
                refine jl rfl rfl (ltn hn rfl) (pure_add rfl rfl rfl (by omega)) ?_
                refine jl rfl rfl (ltn hn rfl) (pure_assign rfl rfl) ?_
                refine JL_nil ?_
                refine ⟨(t.1 + 1, t.2.1 + 1, t.2.2.set (t.1 : Int).toNat (gi t.2.2 ((k + (t.2.1 : Int).toNat : Nat) : Int))), ?_, ?_, ?_⟩
                · exact ⟨by simp only []; omega, by simp only []; omega, by simp only [List.length_set]; omega, by simp only []; omega, by simp only []; rw [set_take (by omega), hg, ← Nat.add_assoc, dd_step (by omega) (by omega), if_neg (by rw [← q2, ← q1]; intro e; exact nd_t h5 e.symm), q1], fun p hp => by simp only [] at hp ⊢; rw [Int.toNat_natCast, gi_setG (by omega), if_neg (by omega)]; exact hd p (by omega)⟩
                · simp only []; omega
                ·
                  refine Le_sub C _ _ ⟨rfl, ⟨rfl, ⟨(eqv rfl (vi (by simp only []; omega))), ⟨rfl, ⟨(eqv rfl (vi (by simp only []; omega))), trivial⟩⟩⟩⟩⟩ ⟨rfl, trivial⟩ rfl rfl
              ·
                refine J_skip ?_
                refine J_region ?_
                refine jl rfl rfl (ltn hn rfl) (pure_move rfl rfl) ?_
                refine jl rfl rfl (ltn hn rfl) (pure_add rfl rfl rfl (by omega)) ?_
                refine jl rfl rfl (ltn hn rfl) (pure_assign rfl rfl) ?_
                refine JL_nil ?_
                refine ⟨(t.1, t.2.1 + 1, t.2.2), ?_, ?_, ?_⟩
                · exact ⟨by simp only []; omega, by simp only []; omega, he, by simp only []; omega, by simp only []; rw [hg, ← Nat.add_assoc, dd_step (by omega) (by omega), if_pos (by rw [← q2, ← q1]; exact (nd_f h5).symm)], fun p hp => hd p (by simp only [] at hp; omega)⟩
                · simp only []; omega
                ·
                  refine Le_sub C _ _ ⟨rfl, ⟨rfl, ⟨rfl, ⟨rfl, ⟨(eqv rfl (vi (by simp only []; omega))), trivial⟩⟩⟩⟩⟩ ⟨rfl, trivial⟩ rfl rfl
            ·
              refine J_exit ?_
              refine J_seq ?_
              refine J_region ?_
              refine jl rfl rfl (ltn hn rfl) (pure_move rfl rfl) ?_
              refine jl rfl rfl (ltn hn rfl) (pure_move rfl rfl) ?_
              refine jl rfl rfl (ltn hn rfl) (p_part rfl SlT.und (SlT.siz 25) rfl rfl rfl rfl rfl (by first | omega | (simp only [Tr.len, List.length_map]; omega) | (simp [Tr.len]; omega)) (by first | omega | (simp only [Tr.len, List.length_map]; omega) | (simp [Tr.len]; omega)) (by first | omega | (simp only [Tr.len, List.length_map]; omega) | (simp [Tr.len]; omega))) ?_
              refine jl_o rfl (op_clear_part_m (z := .slice none 0 0) (v := []) (g := cL) rfl rfl SlT.und (by kernel_rfl) rfl (fun w ok => .slNil 1) rfl rfl rfl) ?_
              refine JL_nil ?_
              refine J_seq ?_
              refine J_region ?_
              refine jl rfl rfl (ltn hn rfl) (pure_move rfl rfl) ?_
              refine jl rfl rfl (ltn hn rfl) (pure_move rfl rfl) ?_
              refine jl rfl rfl (ltn hn rfl) (p_part rfl SlT.und (SlT.siz 25) rfl rfl rfl rfl rfl (by first | omega | (simp only [Tr.len, List.length_map]; omega) | (simp [Tr.len]; omega)) (by first | omega | (simp only [Tr.len, List.length_map]; omega) | (simp [Tr.len]; omega)) (by first | omega | (simp only [Tr.len, List.length_map]; omega) | (simp [Tr.len]; omega))) ?_
              refine jl rfl rfl (ltn hn rfl) (pure_assign rfl rfl) ?_
              refine JL_nil ?_
              refine J_ret ?_
              exact Fin_one rfl (Le.trans (Le_frz 2000000 rfl rfl) (Le_one rfl ((by exact LL_part (by rw [take_clr (by omega), Int.toNat_natCast, hg]; congr 1; exact take_all (by omega)))) rfl))
        ·
          refine J_skip ?_
          refine J_region ?_
          refine jl rfl rfl (ltn hn rfl) (pure_move rfl rfl) ?_
          refine jl rfl rfl (ltn hn rfl) (pure_add rfl rfl rfl (by omega)) ?_
          refine jl rfl rfl (ltn hn rfl) (pure_assign rfl rfl) ?_
          refine JL_nil ?_
          refine ⟨k + 1, ?_, ?_, ?_⟩
          · exact ⟨by omega, by omega, by rw [dd_step h0 (by omega), if_neg (fun e => of_decide_eq_false h3 e.symm), hs, ← take_gi (l := l) (i := k) (by omega)]⟩
          · omega
          ·
            refine Le_sub C _ _ ⟨rfl, ⟨rfl, ⟨(eqv rfl (vi (by omega))), trivial⟩⟩⟩ ⟨rfl, trivial⟩ rfl rfl
      ·
        refine J_exit ?_
        refine J_seq ?_
        refine J_region ?_
        refine jl rfl rfl (ltn hn rfl) (pure_move rfl rfl) ?_
        refine jl rfl rfl (ltn hn rfl) (pure_assign rfl rfl) ?_
        refine JL_nil ?_
        refine J_ret ?_
        exact Fin_one rfl (Le.trans (Le_frz 2000000 rfl rfl) (Le_one rfl (congrArg LL (by rw [take_all h2] at hs; exact hs.symm)) rfl))
end Go.Proofs.YtmiijpobhajfmaaGreat.J
