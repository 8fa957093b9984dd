/- Parts of a small logic over the program, and walks in it. No statement of the seat is proved in this text. -/
import Derived.Test.YtkhhfgkidccmaaaMK
import Derived.Test.YtkhhfgkidccmaaaRows
import Derived.WalkKit
import Derived.ProofKit
import Derived.OpenShut
import Derived.Deep.Slices
namespace Go.Proofs.Ytkhhfgkidccmaaa.J
open Go Go.RowKit
set_option maxRecDepth 20000
set_option linter.unusedVariables false
set_option linter.unusedSimpArgs false

theorem field_good {n : Int} {es : List (Int × Int)} {k : Int} (h : fieldG n es k = true) : goodG n es = true := by
  simp only [fieldG, Bool.and_eq_true] at h
  exact h.1.1
theorem field_k {n : Int} {es : List (Int × Int)} (h : fieldG n es 1 = true) {k : Int} (h1 : 1 ≤ k) (h3 : k ≤ 3) : fieldG n es k = true := by
  simp only [fieldG, Bool.and_eq_true, decide_eq_true_eq] at h ⊢
  exact ⟨h.1, h1, h3⟩
theorem clear_sc {n : Nat} {es : List (Int × Int)} (h : fieldG (n : Int) es 1 = true) {k : Nat} (h1 : 1 ≤ k) (h3 : k ≤ 3) : clearS (n : Int) es (k : Int) = scI n k es := by
  unfold clearS scI
  rw [if_pos (field_k h (by omega) (by omega))]
  simp only [Int.toNat_natCast]

theorem BlindI_spec (n : Int) (es : List (Int × Int)) (hl : es.length < 2^40) : Spec Try.prog 7 [Gr n es] (.tup [I (blindS n es).1, B (blindS n es).2]) [] := by
  refine Spec.intro (c := _) Try.func7 rfl (Nat.le_of_ble_eq_true rfl) (fun C hC hfx => ?_)
  have hn : C.n = 23 := hC
  refine (show J _ _ _ _ (⟨[(0, Gr n es)], []⟩ : AS) from ?_)
  refine J_seq ?_
  refine J_region ?_
  refine jl_o rfl (op_box_agg rfl rfl (ltn hn rfl) rfl rfl rfl) ?_
  refine jl rfl rfl (ltn hn rfl) (pure_assign rfl rfl) ?_
  refine jl rfl rfl (ltn hn rfl) (pure_assign rfl rfl) ?_
  refine JL_nil ?_
  refine J_seq ?_
  refine J_seq ?_
  refine J_region ?_
  refine jl rfl rfl (ltn hn rfl) (p_ld_ba rfl rfl rfl (Nat.le_of_ble_eq_true rfl) rfl) ?_
  refine jl_o rfl (@op_call _ _ _ _ _ _ [.tmp 7, .const (.int .i64 1)] _ _ _ _ _ (IsCop_spec _ _ _ (by omega)) rfl Try.func13 rfl rfl rfl (ltn hn rfl) ⟨rfl, rfl, ⟨rfl, rfl, trivial⟩⟩ rfl rfl) ?_
  refine jl rfl rfl (ltn hn rfl) (pure_not_b rfl rfl) ?_
  refine JL_nil ?_
  refine J_cond rfl (fun h1 => ?_) (fun h1 => ?_)
  ·
    refine J_seq ?_
    refine J_region ?_
    refine jl rfl rfl (ltn hn rfl) (pure_assign rfl rfl) ?_
    refine jl rfl rfl (ltn hn rfl) (pure_assign rfl rfl) ?_
    refine JL_nil ?_
    refine J_ret ?_
    exact Fin_two rfl (Le_sub C _ _ ⟨(eqv rfl (vi (by unfold blindS; rw [if_neg (by simpa using h1)]))), (eqv rfl (vb (by unfold blindS; rw [if_neg (by simpa using h1)]))), trivial⟩ trivial rfl rfl) rfl
  ·
    have hF : fieldG n es 1 = true := by simpa using h1
    obtain ⟨n0, rfl⟩ : ∃ n0 : Nat, n = n0 := ⟨n.toNat, by have := field_bd hF; omega⟩
    have hG := field_good hF
    have hn8 := good_n hG
    refine J_skip ?_
    refine J_seq ?_
    refine J_seq ?_
    refine J_region ?_
    refine jl rfl rfl (ltn hn rfl) (pure_assign rfl rfl) ?_
    refine JL_nil ?_
    refine J_block ?_
    refine J_loop (X := Nat) (fun i => ⟨[(1, .box 1 0), (4, I ((i + 1 : Nat) : Int))], [(1, .box 28 [I (n0 : Int), LP es])]⟩) (fun i => i ≤ 3 ∧ ∀ j, j < i → (scI n0 (j + 1) es).2 = false) (fun i => 3 - i) 0 ?_ ?_ ?_
    · exact ⟨by omega, fun j hj => by omega⟩
    ·
      refine Le_sub C _ _ ⟨rfl, ⟨(eqv rfl (vi (by rfl))), trivial⟩⟩ ⟨rfl, trivial⟩ rfl rfl
    ·
      intro i hR
      obtain ⟨hi, hc⟩ := hR
      refine J_seq ?_
      refine J_seq ?_
      refine J_region ?_
      refine jl rfl rfl (ltn hn rfl) (pure_move rfl rfl) ?_
      refine jl rfl rfl (ltn hn rfl) (pure_leq rfl rfl rfl) ?_
      refine JL_nil ?_
      refine J_cond_p rfl (fun h2 => ?_) (fun h2 => ?_)
      ·
        refine J_skip ?_
        refine J_seq ?_
        refine J_block ?_
        refine J_seq ?_
        refine J_region ?_
        refine jl rfl rfl (ltn hn rfl) (p_ld_ba rfl rfl rfl (Nat.le_of_ble_eq_true rfl) rfl) ?_
        refine jl_o rfl (@op_call _ _ _ _ _ _ [.tmp 15] _ _ _ _ _ (NetOf_spec n0 es hl hn8 hG) rfl Try.func14 rfl rfl rfl (ltn hn rfl) ⟨rfl, rfl, trivial⟩ rfl rfl) ?_
        refine jl rfl rfl (ltn hn rfl) (pure_move rfl rfl) ?_
        refine jl_o rfl (@op_call _ _ _ _ _ _ [.tmp 16, .tmp 17] _ _ _ _ _ (ShortI_spec n0 (i + 1) es hG (by omega)) rfl Try.func15 rfl rfl rfl (ltn hn rfl) ⟨rfl, rfl, ⟨rfl, rfl, trivial⟩⟩ rfl rfl) ?_
        refine jl rfl rfl (ltn hn rfl) (pure_move rfl rfl) ?_
        refine jl rfl rfl (ltn hn rfl) (p_extract rfl rfl rfl) ?_
        refine jl rfl rfl (ltn hn rfl) (p_extract rfl rfl rfl) ?_
        refine jl rfl rfl (ltn hn rfl) (pure_assign rfl rfl) ?_
        refine jl rfl rfl (ltn hn rfl) (pure_assign rfl rfl) ?_
        refine JL_nil ?_
        refine J_seq ?_
        refine J_region ?_
        refine jl rfl rfl (ltn hn rfl) (pure_move rfl rfl) ?_
        refine JL_nil ?_
        refine J_cond rfl (fun h3 => ?_) (fun h3 => ?_)
        ·
          refine J_seq ?_
          refine J_region ?_
          refine jl rfl rfl (ltn hn rfl) (pure_move rfl rfl) ?_
          refine jl rfl rfl (ltn hn rfl) (pure_assign rfl rfl) ?_
          refine jl rfl rfl (ltn hn rfl) (pure_assign rfl rfl) ?_
          refine JL_nil ?_
          refine J_ret ?_
          have c1 := clear_sc hF (k := 1) (by omega) (by omega); have c2 := clear_sc hF (k := 2) (by omega) (by omega); have c3 := clear_sc hF (k := 3) (by omega) (by omega)
          have e : (blindS (n0 : Int) es) = (((i + 1 : Nat) : Int), true) := by
            unfold blindS
            rw [if_pos hF, show (1 : Int) = ((1 : Nat) : Int) from rfl, show (2 : Int) = ((2 : Nat) : Int) from rfl, show (3 : Int) = ((3 : Nat) : Int) from rfl, c1, c2, c3]
            rcases (by omega : i = 0 ∨ i = 1 ∨ i = 2) with rfl | rfl | rfl
            · simp_all
            · have := hc 0 (by omega); simp_all
            · have := hc 0 (by omega); have := hc 1 (by omega); simp_all
          exact Fin_two rfl (Le_sub C _ _ ⟨(eqv rfl (vi (by rw [e]))), (eqv rfl (vb (by rw [e]))), trivial⟩ trivial rfl rfl) rfl
        ·
          refine J_skip ?_
          refine J_region ?_
          refine jl rfl rfl (ltn hn rfl) (pure_move rfl rfl) ?_
          refine jl rfl rfl (ltn hn rfl) (pure_add rfl rfl rfl (by omega)) ?_
          refine jl rfl rfl (ltn hn rfl) (pure_assign rfl rfl) ?_
          refine JL_nil ?_
          refine ⟨i + 1, ?_, ?_, ?_⟩
          · exact ⟨by omega, fun j hj => by rcases (by omega : j < i ∨ j = i) with h | rfl; exact hc j h; simpa using h3⟩
          · omega
          ·
            refine Le_sub C _ _ ⟨rfl, ⟨(eqv rfl (vi (by omega))), trivial⟩⟩ ⟨rfl, trivial⟩ rfl rfl
      ·
        refine J_exit ?_
        refine J_seq ?_
        refine J_region ?_
        refine jl rfl rfl (ltn hn rfl) (pure_assign rfl rfl) ?_
        refine jl rfl rfl (ltn hn rfl) (pure_assign rfl rfl) ?_
        refine JL_nil ?_
        refine J_ret ?_
        have c1 := clear_sc hF (k := 1) (by omega) (by omega); have c2 := clear_sc hF (k := 2) (by omega) (by omega); have c3 := clear_sc hF (k := 3) (by omega) (by omega)
        have e : (blindS (n0 : Int) es) = (0, false) := by
          unfold blindS
          rw [show (1 : Int) = ((1 : Nat) : Int) from rfl, show (2 : Int) = ((2 : Nat) : Int) from rfl, show (3 : Int) = ((3 : Nat) : Int) from rfl, c1, c2, c3]
          obtain rfl : i = 3 := by omega
          have h0 := hc 0 (by omega); have h4 := hc 1 (by omega); have h5 := hc 2 (by omega); simp_all
        exact Fin_two rfl (Le_sub C _ _ ⟨(eqv rfl (vi (by rw [e]))), (eqv rfl (vb (by rw [e]))), trivial⟩ trivial rfl rfl) rfl
theorem Law_spec (n : Int) (es : List (Int × Int)) : Spec Try.prog 3 [Gr n es] (B true) [] := by
  refine Spec.intro (c := _) Try.func3 rfl (Nat.le_of_ble_eq_true rfl) (fun C hC hfx => ?_)
  have hn : C.n = 40 := hC
  refine (show J _ _ _ _ (⟨[(0, Gr n es)], []⟩ : AS) from ?_)
  refine J_seq ?_
  refine J_region ?_
  refine jl_o rfl (op_box_agg rfl rfl (ltn hn rfl) rfl rfl rfl) ?_
  refine jl rfl rfl (ltn hn rfl) (pure_assign rfl rfl) ?_
  refine JL_nil ?_
  refine J_seq ?_
  refine J_region ?_
  refine jl rfl rfl (ltn hn rfl) (pure_assign rfl rfl) ?_
  refine JL_nil ?_
  refine J_seq ?_
  refine J_region ?_
  refine jl rfl rfl (ltn hn rfl) (p_ld_ba rfl rfl rfl (Nat.le_of_ble_eq_true rfl) rfl) ?_
  refine jl rfl rfl (ltn hn rfl) (pure_move rfl rfl) ?_
  refine jl_o rfl (@op_call _ _ _ _ _ _ [.tmp 9, .tmp 10] _ _ _ _ _ (SzG_spec _ _ _ (by omega)) rfl Try.func4 rfl rfl rfl (ltn hn rfl) ⟨rfl, rfl, ⟨rfl, rfl, trivial⟩⟩ rfl rfl) ?_
  refine jl rfl rfl (ltn hn rfl) (pure_assign rfl rfl) ?_
  refine JL_nil ?_
  refine J_seq ?_
  refine J_seq ?_
  refine J_region ?_
  refine jl rfl rfl (ltn hn rfl) (pure_move rfl rfl) ?_
  refine jl rfl rfl (ltn hn rfl) (pure_lss rfl rfl rfl) ?_
  refine JL_nil ?_
  refine J_cond_p rfl (fun h1 => ?_) (fun h1 => ?_)
  ·
    refine J_seq ?_
    refine J_region ?_
    refine jl rfl rfl (ltn hn rfl) (pure_assign rfl rfl) ?_
    refine JL_nil ?_
    refine J_ret ?_
    exact Fin_one rfl (Le_one rfl (vb (by first | rfl | (exfalso; simp_all))) rfl)
  ·
    have hle : es.length < 2 ^ 40 := by have h0 := h1; unfold szE at h0; split at h0 <;> omega
    refine J_skip ?_
    refine J_seq ?_
    refine J_region ?_
    refine jl rfl rfl (ltn hn rfl) (p_ld_ba rfl rfl rfl (Nat.le_of_ble_eq_true rfl) rfl) ?_
    refine jl_o rfl (@op_call _ _ _ _ _ _ [.tmp 15] _ _ _ _ _ (ToG_spec _ _ (by omega)) rfl Try.func6 rfl rfl rfl (ltn hn rfl) ⟨rfl, rfl, trivial⟩ rfl rfl) ?_
    refine jl_o rfl (@op_call _ _ _ _ _ _ [.tmp 16] _ _ _ _ _ (Blind_spec _ _ (by omega)) rfl Try.func5 rfl rfl rfl (ltn hn rfl) ⟨rfl, rfl, trivial⟩ rfl rfl) ?_
    refine jl rfl rfl (ltn hn rfl) (pure_move rfl rfl) ?_
    refine jl rfl rfl (ltn hn rfl) (p_extract rfl rfl rfl) ?_
    refine jl rfl rfl (ltn hn rfl) (p_extract rfl rfl rfl) ?_
    refine jl rfl rfl (ltn hn rfl) (pure_assign rfl rfl) ?_
    refine jl rfl rfl (ltn hn rfl) (pure_assign rfl rfl) ?_
    refine JL_nil ?_
    refine J_seq ?_
    refine J_region ?_
    refine jl rfl rfl (ltn hn rfl) (p_ld_ba rfl rfl rfl (Nat.le_of_ble_eq_true rfl) rfl) ?_
    refine jl_o rfl (@op_call _ _ _ _ _ _ [.tmp 20] _ _ _ _ _ (ToG_spec _ _ (by omega)) rfl Try.func6 rfl rfl rfl (ltn hn rfl) ⟨rfl, rfl, trivial⟩ rfl rfl) ?_
    refine jl_o rfl (@op_alloc _ _ _ _ _ _ _ rfl ZrT.out rfl rfl (ltn hn rfl) rfl) ?_
    refine jl_o rfl (op_store_box_agg rfl rfl (by exact SzT.out) rfl rfl (by exact Nat.le_of_ble_eq_true rfl) rfl rfl) ?_
    refine JL_nil ?_
    refine J_seq ?_
    refine J_region ?_
    refine jl rfl rfl (ltn hn rfl) (p_ld_ba rfl rfl rfl (Nat.le_of_ble_eq_true rfl) rfl) ?_
    refine jl_o rfl (@op_call _ _ _ _ _ _ [.tmp 23] _ _ _ _ _ (BlindI_spec _ _ (by omega)) rfl Try.func7 rfl rfl rfl (ltn hn rfl) ⟨rfl, rfl, trivial⟩ rfl rfl) ?_
    refine jl rfl rfl (ltn hn rfl) (pure_move rfl rfl) ?_
    refine jl rfl rfl (ltn hn rfl) (p_extract rfl rfl rfl) ?_
    refine jl rfl rfl (ltn hn rfl) (p_extract rfl rfl rfl) ?_
    refine jl rfl rfl (ltn hn rfl) (pure_assign rfl rfl) ?_
    refine jl rfl rfl (ltn hn rfl) (pure_assign rfl rfl) ?_
    refine JL_nil ?_
    refine J_seq ?_
    refine J_seq ?_
    refine J_region ?_
    refine jl rfl rfl (ltn hn rfl) (pure_move rfl rfl) ?_
    refine jl rfl rfl (ltn hn rfl) (pure_move rfl rfl) ?_
    refine jl rfl rfl (ltn hn rfl) (pure_neq rfl rfl rfl) ?_
    refine jl rfl rfl (ltn hn rfl) (pure_move rfl rfl) ?_
    refine jl_split rfl rfl rfl (fun h2 => ?_) (fun h2 => ?_)
    ·
      refine jl_s rfl rfl (ltn hn rfl) ?_
      refine jl_s rfl rfl (ltn hn rfl) ?_
      refine jl_s rfl rfl (ltn hn rfl) ?_
      refine jl rfl rfl (ltn hn rfl) (pure_pick_t rfl rfl rfl) ?_
      refine JL_nil ?_
      refine J_cond_t rfl ?_
      refine J_seq ?_
      refine J_region ?_
      refine jl rfl rfl (ltn hn rfl) (pure_assign rfl rfl) ?_
      refine JL_nil ?_
      refine J_ret ?_
      exact Fin_one rfl (Le_one rfl (vb (by first | rfl | (exfalso; simp_all))) rfl)
    ·
      refine jl rfl rfl (ltn hn rfl) (pure_move rfl rfl) ?_
      refine jl rfl rfl (ltn hn rfl) (pure_move rfl rfl) ?_
      refine jl rfl rfl (ltn hn rfl) (p_neq_b rfl rfl rfl) ?_
      refine jl rfl rfl (ltn hn rfl) (pure_pick_f rfl rfl rfl) ?_
      refine JL_nil ?_
      refine J_cond rfl (fun h3 => ?_) (fun h3 => ?_)
      ·
        refine J_seq ?_
        refine J_region ?_
        refine jl rfl rfl (ltn hn rfl) (pure_assign rfl rfl) ?_
        refine JL_nil ?_
        refine J_ret ?_
        exact Fin_one rfl (Le_one rfl (vb (by first | rfl | (exfalso; simp_all))) rfl)
      ·
        refine J_skip ?_
        refine J_seq ?_
        refine J_seq ?_
        refine J_mixed [37, 38] follows_mixed (by kernel_rfl) ?_
        refine JD1_read 0 rfl (by kernel_rfl) (by kernel_rfl) (by kernel_rfl) rfl rfl (ltn hn rfl) (p_ld_ba rfl rfl rfl (Nat.le_of_ble_eq_true rfl) rfl) rfl ?_
        refine JD1_read 1 rfl (by kernel_rfl) (by kernel_rfl) (by kernel_rfl) rfl rfl (ltn hn rfl) (p_ld_ba rfl rfl rfl (Nat.le_of_ble_eq_true rfl) rfl) rfl ?_
        refine JD1_go ?_
        refine JD_only 2 rfl (by kernel_rfl) rfl (@op_call _ _ _ _ _ _ [.tmp 36] _ _ _ _ _ (ToG_spec _ _ (by omega)) rfl Try.func6 rfl rfl rfl (ltn hn rfl) ⟨rfl, rfl, trivial⟩ rfl rfl) rfl ?_
        refine JD_only 3 rfl (by kernel_rfl) rfl (@op_call _ _ _ _ _ _ [.tmp 35, .tmp 37] _ _ _ _ _ (EqG_spec _ _ _ _ (by omega) (by omega)) rfl Try.func8 rfl rfl rfl (ltn hn rfl) ⟨rfl, rfl, ⟨rfl, rfl, trivial⟩⟩ rfl rfl) rfl ?_
        refine JD_still 4 rfl (by kernel_rfl) (by kernel_rfl) (by kernel_rfl) rfl rfl (ltn hn rfl) (pure_not_b rfl rfl) ?_
        refine JD_done (by kernel_rfl) ?_
        refine J_cond rfl (fun h4 => ?_) (fun h4 => ?_)
        ·
          refine J_seq ?_
          refine J_region ?_
          refine jl rfl rfl (ltn hn rfl) (pure_assign rfl rfl) ?_
          refine JL_nil ?_
          refine J_ret ?_
          exact Fin_one rfl (Le_one rfl (vb (by first | rfl | (exfalso; simp_all))) rfl)
        ·
          refine J_skip ?_
          refine J_seq ?_
          refine J_region ?_
          refine jl rfl rfl (ltn hn rfl) (pure_assign rfl rfl) ?_
          refine JL_nil ?_
          refine J_ret ?_
          exact Fin_one rfl (Le_one rfl (vb (by first | rfl | (exfalso; simp_all))) rfl)
end Go.Proofs.Ytkhhfgkidccmaaa.J
namespace Go.Proofs.Ytkhhfgkidccmaaa.J
open Go Go.RowKit Go.ChangeShapes Go.WideShapes Go.ChangeAt
set_option linter.unusedVariables false
set_option linter.unusedSimpArgs false

section
variable {H : Type} {enc : TypeId × Value → H} {P : Program} {w : World} {base : Nat} {spare : Nat → Bool} {held : Bool}
abbrev okA (w : World) (k : Nat) : Prop := k < w.heap.size
theorem has_lt {r : Reach} {u : TypeId} {a : Addr} {n c : Nat} (h : Cell.okWide P w r base u (.slice (some a) n c)) : a.block < w.heap.size := by
  unfold Cell.okWide at h
  have key : Cell.ok P w r base u (.slice (some a) n c) → a.block < w.heap.size := by
    intro h
    unfold Cell.ok at h
    cases hu : P.underlying u with
    | none => rw [hu] at h; exact h.elim
    | some d =>
      rw [hu] at h
      cases d with
      | slice e =>
        obtain ⟨_, _, _, _, row, cells, hs, _⟩ := h
        cases hb : w.heap[a.block]? with
        | none => simp [World.shape?, hb] at hs
        | some o => exact (Array.getElem?_eq_some_iff.1 hb).1
      | _ => exact h.elim
  cases hu : P.underlying u with
  | none => rw [hu] at h; exact key h
  | some d => rw [hu] at h; cases d <;> exact key h
theorem rd_int {t : TypeId} {fuel : Nat} {cs : List Value} {x : DataW H × List MemPlace} (ht : P.underlying t = some (.int .i64)) (h : DataW.trod enc P w base spare held fuel t cs = some x) : ∃ n : Int, cs = [.int .i64 n] := by
  obtain ⟨n, e, _⟩ := DataW.trod_int ht h
  exact ⟨n, e⟩
theorem rd_pair {t e : TypeId} {fuel : Nat} {cs : List Value} {x : DataW H × List MemPlace} (ht : P.underlying t = some (.array 2 e)) (he : P.underlying e = some (.int .i64)) (hc2 : P.cellsOf t = 2) (hc : P.cellsOf e = 1) (h : DataW.trod enc P w base spare held fuel t cs = some x) : ∃ p : Int × Int, cs = [.int .i64 p.1, .int .i64 p.2] := by
  obtain ⟨xs, m, _, _, hl, hxl, hf⟩ := DataW.trod_array ht h
  rw [hc2] at hl
  match cs, hl with
  | [c0, c1], _ =>
    have h0 := hf 0 (by omega)
    have h1 := hf 1 (by omega)
    rw [hc] at h0 h1
    rw [List.getElem?_eq_getElem (by omega)] at h0 h1
    obtain ⟨a, ea⟩ := rd_int he h0
    obtain ⟨b, eb⟩ := rd_int he h1
    simp at ea eb
    exact ⟨(a, b), by rw [ea, eb]⟩
/-- A slice of what is read by pieces, each of so many cells. -/
theorem rd_slice {α : Type} [Inhabited α] {t e sz : Nat} {g : α → List AV} (ht : P.underlying t = some (.slice e)) (hc : P.cellsOf e = sz) (hg : ∀ a, (g a).length = sz)
    (hel : ∀ (n : Nat) (cs : List Value) (x : DataW H × List MemPlace), (∀ (j : Nat) (u : Value), cs[j]? = some u → ∃ q : Addr, w.cell? q = some u) → DataW.trod enc P w base spare held n e cs = some x → ∃ a : α, cs.length = sz ∧ ∀ (c : Nat) av, (g a)[c]? = some av → ∃ u, cs[c]? = some u ∧ u.oneCell' = true ∧ RO w (okA w) av u)
    {fuel : Nat} {cs : List Value} {x : DataW H × List MemPlace} (h : DataW.trod enc P w base spare held fuel t cs = some x) (hlt : ∀ a n c, cs = [.slice (some a) n c] → a.block < w.heap.size) :
    ∃ (v : Value) (l : List α), cs = [v] ∧ v.oneCell' = true ∧ RO w (okA w) (.sl sz (l.map g)) v ∧ l.length ≤ maxLen := by
  rcases Go.Deep.open_slice ht h with ⟨rfl, _⟩ | ⟨a, len, cap, m, n, D, Pl, rfl, _, hle, hm, hmv, _, hall⟩
  · exact ⟨_, [], rfl, rfl, .slNil sz, Nat.zero_le _⟩
  · rw [hc] at hall
    have hml : len ≤ m := by rw [hmv]; split <;> omega
    have hA : ∀ i : Nat, ∃ el : α, i < len → ∀ (c : Nat) av, (g el)[c]? = some av → ∃ u, w.cell? (a.add (i * sz + c)) = some u ∧ u.oneCell' = true ∧ RO w (okA w) av u := by
      intro i
      by_cases hi : i < len
      · obtain ⟨cs', h1, h2⟩ := hall i (by omega)
        obtain ⟨_, h3, h4⟩ := World.cells?_some h1
        obtain ⟨el, h5, h6⟩ := hel n cs' _ (fun j u hj => ⟨_, by rw [h4 j (by rw [← h3]; exact (List.getElem?_eq_some_iff.1 hj).1)]; exact hj⟩) h2
        refine ⟨el, fun _ c av hc => ?_⟩
        obtain ⟨u, hu, h7, h8⟩ := h6 c av hc
        have hcl : c < sz := by rw [← h5]; exact (List.getElem?_eq_some_iff.1 hu).1
        exact ⟨u, by rw [← Addr.add_add, h4 c hcl]; exact hu, h7, h8⟩
      · exact ⟨default, fun h => absurd h hi⟩
    have hel' : ∀ j, j < len → ((List.range len).map (fun i => Classical.choose (hA i)))[j]? = some (Classical.choose (hA j)) := fun j hj => by simp [hj]
    have hlen : ((((List.range len).map (fun i => Classical.choose (hA i)))).map g).length = len := by simp
    have hB : ∀ j c : Nat, ∃ u : Value, ∀ x av, ((((List.range len).map (fun i => Classical.choose (hA i)))).map g)[j]? = some x → x[c]? = some av → w.cell? (a.add (j * sz + c)) = some u ∧ u.oneCell' = true ∧ RO w (okA w) av u := by
      intro j c
      by_cases hj : j < len
      · cases hc : (g (Classical.choose (hA j)))[c]? with
        | none =>
          refine ⟨.bool false, fun x av hx hav => ?_⟩
          rw [List.getElem?_map, hel' j hj] at hx
          cases hx
          rw [hc] at hav; cases hav
        | some av0 =>
          obtain ⟨u, h1, h2, h3⟩ := Classical.choose_spec (hA j) hj c av0 hc
          refine ⟨u, fun x av hx hav => ?_⟩
          rw [List.getElem?_map, hel' j hj] at hx
          cases hx
          rw [hc] at hav; cases hav
          exact ⟨h1, h2, h3⟩
      · exact ⟨.bool false, fun x av hx _ => by
          have := (List.getElem?_eq_some_iff.1 hx).1
          rw [hlen] at this
          exact absurd this hj⟩
    refine ⟨_, (List.range len).map (fun i => Classical.choose (hA i)), rfl, rfl, ?_, by simp; omega⟩
    have hro := RO.sl (w := w) (ok := okA w) sz ((((List.range len).map (fun i => Classical.choose (hA i)))).map g) a cap (fun j c => Classical.choose (hB j c)) (by rw [hlen]; exact hle) hm (hlt a len cap rfl) (fun x hx => by
      obtain ⟨y, _, rfl⟩ := List.mem_map.1 hx
      exact hg y) (fun j x c av hx hav => by have h := Classical.choose_spec (hB j c) x av hx hav; exact ⟨h.1, h.2.1⟩) (fun j x c av hx hav => (Classical.choose_spec (hB j c) x av hx hav).2.2)
    rwa [hlen] at hro
theorem rd_pairs {t e i : TypeId} (ht : P.underlying t = some (.slice e)) (he : P.underlying e = some (.array 2 i)) (hi : P.underlying i = some (.int .i64)) (hc : P.cellsOf e = 2) (hc1 : P.cellsOf i = 1)
    {fuel : Nat} {cs : List Value} {x : DataW H × List MemPlace} (h : DataW.trod enc P w base spare held fuel t cs = some x) (hlt : ∀ a n c, cs = [.slice (some a) n c] → a.block < w.heap.size) :
    ∃ (v : Value) (l : List (Int × Int)), cs = [v] ∧ v.oneCell' = true ∧ RO w (okA w) (LP l) v ∧ l.length ≤ maxLen :=
  rd_slice (g := cP) ht hc (fun _ => rfl) (fun n cs x _ h => by
    obtain ⟨p, rfl⟩ := rd_pair he hi hc hc1 h
    refine ⟨p, rfl, fun c av hc => ?_⟩
    match c, hc with
    | 0, hc => cases hc; exact ⟨_, rfl, rfl, .val _⟩
    | 1, hc => cases hc; exact ⟨_, rfl, rfl, .val _⟩
    | c + 2, hc => cases hc) h hlt
/-- A graph. -/
theorem rd_graph {r : Reach} {b0 : Nat} {t e i : TypeId} {f0 f1 : Field} {v : Value} {d : DataW H} {ps : List MemPlace} (ht : P.underlying t = some (.struct #[f0, f1])) (h0 : P.underlying f0.type = some (.int .i64)) (h1 : P.underlying f1.type = some (.slice e)) (he : P.underlying e = some (.array 2 i)) (hi : P.underlying i = some (.int .i64))
    (hc : P.cellsOf t = 2) (hc0 : P.cellsOf f0.type = 1) (hc1 : P.cellsOf f1.type = 1) (hce : P.cellsOf e = 2) (hci : P.cellsOf i = 1) (ho0 : f0.offset = 0) (ho1 : f1.offset = 1)
    (hval : Value.okWide P w r b0 t v) (h : DataW.Trod enc P w base spare held t v d ps) : ∃ (n : Int) (es : List (Int × Int)), RO w (okA w) (Gr n es) v := by
  unfold Value.okWide at hval
  rw [ht] at hval
  obtain ⟨cs, rfl, hcs, ts, _, _, hrow⟩ := hval
  obtain ⟨fuel, h⟩ := h
  rw [hc] at hcs
  obtain ⟨c0, c1, rfl⟩ : ∃ c0 c1, cs = #[c0, c1] := by
    rcases cs with ⟨_ | ⟨a, _ | ⟨b, _ | ⟨c, r⟩⟩⟩⟩ <;> simp at hcs
    exact ⟨a, b, rfl⟩
  obtain ⟨y0, y1, m, _, _, h2, h3⟩ := trod_struct2 ht h
  rw [ho0, hc0] at h2
  rw [ho1, hc1] at h3
  obtain ⟨n, e0⟩ := rd_int h0 h2
  obtain ⟨v1, es, e1, h5, h6, _⟩ := rd_pairs h1 he hi hce hci h3 (fun a n c hh => by
    obtain ⟨u, _, hu⟩ := hrow 1 c1 rfl
    have : c1 = .slice (some a) n c := by simpa [Value.cells] using hh
    rw [this] at hu
    exact has_lt hu)
  have e0' : c0 = .int .i64 n := by simpa [Value.cells] using e0
  have e1' : c1 = v1 := by simpa [Value.cells] using e1
  subst e0'; subst e1'
  exact ⟨n, es, .agg [I n, LP es] #[.int .i64 n, c1] rfl (fun j a u ha hu => by
    match j, ha, hu with
    | 0, ha, hu => cases ha; cases hu; exact .val _
    | 1, ha, hu => cases ha; cases hu; exact h6
    | j + 2, ha, hu => cases ha)⟩
/-- Nothing that was there before has turned: what the row asks of a call that hands back what it should. -/
theorem post_below {f : Func} {s : ChangeSpec} {apart fresh handsOn : Bool} {W W' : World} {args : Array Value} {v : Value} {ds gs : List (DataW H)} {before pa pv : List MemPlace}
    (hW : DataW.Whole enc P f.params.toList s.vars apart W args.toList ds gs before)
    (hres : ∀ (b : Nat) (sp : Nat → Bool) (hd : Bool), DataW.TrodAll enc P W' b sp hd f.resultTypes.toList (v.resultList f.resultTypes.size) (s.fn H (ds ++ gs)).results [])
    (hargs : DataW.TrodAll enc P W' 0 (fun b => decide (b < W.heap.size)) true f.params.toList args.toList (s.fn H (ds ++ gs)).args pa)
    (hvars : DataW.TrodVars enc P W' (fun b => decide (b < W.heap.size)) s.vars (s.fn H (ds ++ gs)).vars pv)
    (hps : before = pa ++ pv) (hk : W.keptBut W' (· ∈ before)) : s.post enc P f apart fresh handsOn false W args v W' := by
  refine ⟨ds, gs, before, [], pa, pv, hW, hres _ _ _, hargs, hvars, World.keptBut_mono (fun p hp => ⟨hp, ?_⟩) hk, fun h => by cases h⟩
  rw [hps, List.mem_append] at hp
  exact Or.inr hp
/-- What a contract says of a law that returns true. -/
theorem law_true {f : FuncId} {ins : List AV} (hS : Spec P f ins (B true) []) (W : World) (vs : Array Value) (hsz : vs.size = ins.length) (hro : ∀ (j : Nat) a u, ins[j]? = some a → vs[j]? = some u → RO W (okA W) a u) :
    Calls P f vs W fun e W' => e = .returned (.bool true) ∧ Below W.heap.size W W' :=
  (hS W 0 (okA W) (fun k h => h) vs hsz hro).mono fun e W' ⟨v, ψ, φ, he, hp, hr⟩ => by
    have hv : v = .bool true := by
      cases hr with
      | ro h => cases h with | val => rfl
    exact ⟨by rw [he, hv], hp.below.below (fun k _ h => h)⟩
end
end Go.Proofs.Ytkhhfgkidccmaaa.J
