/- Parts of a small logic over the program, and walks in it. No statement of the seat is proved in this text. -/
import Derived.Test.YtmiijpobhajfmaaGreatMK
import Derived.Test.YtmiijpobhajfmaaGreatRows
import Derived.WalkKit
import Derived.ProofKit
import Derived.OpenShut
import Derived.Deep.Slices
namespace Go.Proofs.YtmiijpobhajfmaaGreat.J
open Go Go.RowKit Go.ChangeShapes Go.WideShapes Go.ChangeAt
set_option linter.unusedVariables false
set_option linter.unusedSimpArgs false

section
variable {H : Type} {enc : TypeId × Value → H} {P : Program} {w : World} {base : Nat} {spare : Nat → Bool} {held : Bool}
abbrev okA (w : World) (k : Nat) : Prop := k < w.heap.size
theorem has_lt {r : Reach} {u : TypeId} {a : Addr} {n c : Nat} (h : Cell.okWide P w r base u (.slice (some a) n c)) : a.block < w.heap.size := by
  unfold Cell.okWide at h
  have key : Cell.ok P w r base u (.slice (some a) n c) → a.block < w.heap.size := by
    intro h
    unfold Cell.ok at h
    cases hu : P.underlying u with
    | none => rw [hu] at h; exact h.elim
    | some d =>
      rw [hu] at h
      cases d with
      | slice e =>
        obtain ⟨_, _, _, _, row, cells, hs, _⟩ := h
        cases hb : w.heap[a.block]? with
        | none => simp [World.shape?, hb] at hs
        | some o => exact (Array.getElem?_eq_some_iff.1 hb).1
      | _ => exact h.elim
  cases hu : P.underlying u with
  | none => rw [hu] at h; exact key h
  | some d => rw [hu] at h; cases d <;> exact key h
theorem rd_int {t : TypeId} {fuel : Nat} {cs : List Value} {x : DataW H × List MemPlace} (ht : P.underlying t = some (.int .i64)) (h : DataW.trod enc P w base spare held fuel t cs = some x) : ∃ n : Int, cs = [.int .i64 n] := by
  obtain ⟨n, e, _⟩ := DataW.trod_int ht h
  exact ⟨n, e⟩
theorem rd_pair {t e : TypeId} {fuel : Nat} {cs : List Value} {x : DataW H × List MemPlace} (ht : P.underlying t = some (.array 2 e)) (he : P.underlying e = some (.int .i64)) (hc2 : P.cellsOf t = 2) (hc : P.cellsOf e = 1) (h : DataW.trod enc P w base spare held fuel t cs = some x) : ∃ p : Int × Int, cs = [.int .i64 p.1, .int .i64 p.2] := by
  obtain ⟨xs, m, _, _, hl, hxl, hf⟩ := DataW.trod_array ht h
  rw [hc2] at hl
  match cs, hl with
  | [c0, c1], _ =>
    have h0 := hf 0 (by omega)
    have h1 := hf 1 (by omega)
    rw [hc] at h0 h1
    rw [List.getElem?_eq_getElem (by omega)] at h0 h1
    obtain ⟨a, ea⟩ := rd_int he h0
    obtain ⟨b, eb⟩ := rd_int he h1
    simp at ea eb
    exact ⟨(a, b), by rw [ea, eb]⟩
/-- A slice of what is read by pieces, each of so many cells. -/
theorem rd_slice {α : Type} [Inhabited α] {t e sz : Nat} {g : α → List AV} (ht : P.underlying t = some (.slice e)) (hc : P.cellsOf e = sz) (hg : ∀ a, (g a).length = sz)
    (hel : ∀ (n : Nat) (cs : List Value) (x : DataW H × List MemPlace), (∀ (j : Nat) (u : Value), cs[j]? = some u → ∃ q : Addr, w.cell? q = some u) → DataW.trod enc P w base spare held n e cs = some x → ∃ a : α, cs.length = sz ∧ ∀ (c : Nat) av, (g a)[c]? = some av → ∃ u, cs[c]? = some u ∧ u.oneCell' = true ∧ RO w (okA w) av u)
    {fuel : Nat} {cs : List Value} {x : DataW H × List MemPlace} (h : DataW.trod enc P w base spare held fuel t cs = some x) (hlt : ∀ a n c, cs = [.slice (some a) n c] → a.block < w.heap.size) :
    ∃ (v : Value) (l : List α), cs = [v] ∧ v.oneCell' = true ∧ RO w (okA w) (.sl sz (l.map g)) v ∧ l.length ≤ maxLen := by
  rcases Go.Deep.open_slice ht h with ⟨rfl, _⟩ | ⟨a, len, cap, m, n, D, Pl, rfl, _, hle, hm, hmv, _, hall⟩
  · exact ⟨_, [], rfl, rfl, .slNil sz, Nat.zero_le _⟩
  · rw [hc] at hall
    have hml : len ≤ m := by rw [hmv]; split <;> omega
    have hA : ∀ i : Nat, ∃ el : α, i < len → ∀ (c : Nat) av, (g el)[c]? = some av → ∃ u, w.cell? (a.add (i * sz + c)) = some u ∧ u.oneCell' = true ∧ RO w (okA w) av u := by
      intro i
      by_cases hi : i < len
      · obtain ⟨cs', h1, h2⟩ := hall i (by omega)
        obtain ⟨_, h3, h4⟩ := World.cells?_some h1
        obtain ⟨el, h5, h6⟩ := hel n cs' _ (fun j u hj => ⟨_, by rw [h4 j (by rw [← h3]; exact (List.getElem?_eq_some_iff.1 hj).1)]; exact hj⟩) h2
        refine ⟨el, fun _ c av hc => ?_⟩
        obtain ⟨u, hu, h7, h8⟩ := h6 c av hc
        have hcl : c < sz := by rw [← h5]; exact (List.getElem?_eq_some_iff.1 hu).1
        exact ⟨u, by rw [← Addr.add_add, h4 c hcl]; exact hu, h7, h8⟩
      · exact ⟨default, fun h => absurd h hi⟩
    have hel' : ∀ j, j < len → ((List.range len).map (fun i => Classical.choose (hA i)))[j]? = some (Classical.choose (hA j)) := fun j hj => by simp [hj]
    have hlen : ((((List.range len).map (fun i => Classical.choose (hA i)))).map g).length = len := by simp
    have hB : ∀ j c : Nat, ∃ u : Value, ∀ x av, ((((List.range len).map (fun i => Classical.choose (hA i)))).map g)[j]? = some x → x[c]? = some av → w.cell? (a.add (j * sz + c)) = some u ∧ u.oneCell' = true ∧ RO w (okA w) av u := by
      intro j c
      by_cases hj : j < len
      · cases hc : (g (Classical.choose (hA j)))[c]? with
        | none =>
          refine ⟨.bool false, fun x av hx hav => ?_⟩
          rw [List.getElem?_map, hel' j hj] at hx
          cases hx
          rw [hc] at hav; cases hav
        | some av0 =>
          obtain ⟨u, h1, h2, h3⟩ := Classical.choose_spec (hA j) hj c av0 hc
          refine ⟨u, fun x av hx hav => ?_⟩
          rw [List.getElem?_map, hel' j hj] at hx
          cases hx
          rw [hc] at hav; cases hav
          exact ⟨h1, h2, h3⟩
      · exact ⟨.bool false, fun x av hx _ => by
          have := (List.getElem?_eq_some_iff.1 hx).1
          rw [hlen] at this
          exact absurd this hj⟩
    refine ⟨_, (List.range len).map (fun i => Classical.choose (hA i)), rfl, rfl, ?_, by simp; omega⟩
    have hro := RO.sl (w := w) (ok := okA w) sz ((((List.range len).map (fun i => Classical.choose (hA i)))).map g) a cap (fun j c => Classical.choose (hB j c)) (by rw [hlen]; exact hle) hm (hlt a len cap rfl) (fun x hx => by
      obtain ⟨y, _, rfl⟩ := List.mem_map.1 hx
      exact hg y) (fun j x c av hx hav => by have h := Classical.choose_spec (hB j c) x av hx hav; exact ⟨h.1, h.2.1⟩) (fun j x c av hx hav => (Classical.choose_spec (hB j c) x av hx hav).2.2)
    rwa [hlen] at hro
theorem rd_pairs {t e i : TypeId} (ht : P.underlying t = some (.slice e)) (he : P.underlying e = some (.array 2 i)) (hi : P.underlying i = some (.int .i64)) (hc : P.cellsOf e = 2) (hc1 : P.cellsOf i = 1)
    {fuel : Nat} {cs : List Value} {x : DataW H × List MemPlace} (h : DataW.trod enc P w base spare held fuel t cs = some x) (hlt : ∀ a n c, cs = [.slice (some a) n c] → a.block < w.heap.size) :
    ∃ (v : Value) (l : List (Int × Int)), cs = [v] ∧ v.oneCell' = true ∧ RO w (okA w) (LP l) v ∧ l.length ≤ maxLen :=
  rd_slice (g := cP) ht hc (fun _ => rfl) (fun n cs x _ h => by
    obtain ⟨p, rfl⟩ := rd_pair he hi hc hc1 h
    refine ⟨p, rfl, fun c av hc => ?_⟩
    match c, hc with
    | 0, hc => cases hc; exact ⟨_, rfl, rfl, .val _⟩
    | 1, hc => cases hc; exact ⟨_, rfl, rfl, .val _⟩
    | c + 2, hc => cases hc) h hlt
theorem rd_ints {t i : TypeId} (ht : P.underlying t = some (.slice i)) (hi : P.underlying i = some (.int .i64)) (hc1 : P.cellsOf i = 1)
    {fuel : Nat} {cs : List Value} {x : DataW H × List MemPlace} (h : DataW.trod enc P w base spare held fuel t cs = some x) (hlt : ∀ a n c, cs = [.slice (some a) n c] → a.block < w.heap.size) :
    ∃ (v : Value) (l : List Int), cs = [v] ∧ v.oneCell' = true ∧ RO w (okA w) (L l) v ∧ l.length ≤ maxLen :=
  rd_slice (g := cI) ht hc1 (fun _ => rfl) (fun n cs x _ h => by
    obtain ⟨p, rfl⟩ := rd_int hi h
    refine ⟨p, rfl, fun c av hc => ?_⟩
    match c, hc with
    | 0, hc => cases hc; exact ⟨_, rfl, rfl, .val _⟩
    | c + 1, hc => cases hc) h hlt
/-- An argument that is a list of numbers. -/
theorem rd_list {r : Reach} {b0 : Nat} {t i : TypeId} {v : Value} {d : DataW H} {ps : List MemPlace} (ht : P.underlying t = some (.slice i)) (hi : P.underlying i = some (.int .i64)) (hc1 : P.cellsOf i = 1)
    (hval : Value.okWide P w r b0 t v) (h : DataW.Trod enc P w base spare held t v d ps) : ∃ l : List Int, RO w (okA w) (L l) v := by
  unfold Value.okWide at hval
  rw [ht] at hval
  obtain ⟨fuel, h⟩ := h
  have hone : v.cells.toList = [v] := by
    unfold Cell.okWide at hval
    rw [ht] at hval
    have h2 : Cell.ok P w r b0 t v := by cases v <;> first | exact hval | exact hval.elim
    unfold Cell.ok at h2
    rw [ht] at h2
    cases v <;> first | rfl | exact h2.elim
  rw [hone] at h
  obtain ⟨v', l, e, _, h3, _⟩ := rd_ints ht hi hc1 h (fun a n c hh => by
    have : v = .slice (some a) n c := by simpa using hh
    rw [this] at hval
    exact has_lt hval)
  have : v = v' := by simpa using e
  exact ⟨l, this ▸ h3⟩
theorem rd_num {r : Reach} {b0 : Nat} {t : TypeId} {v : Value} {d : DataW H} {ps : List MemPlace} (ht : P.underlying t = some (.int .i64)) (hval : Value.okWide P w r b0 t v) (h : DataW.Trod enc P w base spare held t v d ps) : ∃ n : Int, v = .int .i64 n := by
  obtain ⟨n, e, _⟩ := open_int ht hval h
  exact ⟨n, e⟩
/-- A graph. -/
theorem rd_graph {r : Reach} {b0 : Nat} {t e i : TypeId} {f0 f1 : Field} {v : Value} {d : DataW H} {ps : List MemPlace} (ht : P.underlying t = some (.struct #[f0, f1])) (h0 : P.underlying f0.type = some (.int .i64)) (h1 : P.underlying f1.type = some (.slice e)) (he : P.underlying e = some (.array 2 i)) (hi : P.underlying i = some (.int .i64))
    (hc : P.cellsOf t = 2) (hc0 : P.cellsOf f0.type = 1) (hc1 : P.cellsOf f1.type = 1) (hce : P.cellsOf e = 2) (hci : P.cellsOf i = 1) (ho0 : f0.offset = 0) (ho1 : f1.offset = 1)
    (hval : Value.okWide P w r b0 t v) (h : DataW.Trod enc P w base spare held t v d ps) : ∃ (n : Int) (es : List (Int × Int)), RO w (okA w) (Gr n es) v := by
  unfold Value.okWide at hval
  rw [ht] at hval
  obtain ⟨cs, rfl, hcs, ts, _, _, hrow⟩ := hval
  obtain ⟨fuel, h⟩ := h
  rw [hc] at hcs
  obtain ⟨c0, c1, rfl⟩ : ∃ c0 c1, cs = #[c0, c1] := by
    rcases cs with ⟨_ | ⟨a, _ | ⟨b, _ | ⟨c, r⟩⟩⟩⟩ <;> simp at hcs
    exact ⟨a, b, rfl⟩
  obtain ⟨y0, y1, m, _, _, h2, h3⟩ := trod_struct2 ht h
  rw [ho0, hc0] at h2
  rw [ho1, hc1] at h3
  obtain ⟨n, e0⟩ := rd_int h0 h2
  obtain ⟨v1, es, e1, h5, h6, _⟩ := rd_pairs h1 he hi hce hci h3 (fun a n c hh => by
    obtain ⟨u, _, hu⟩ := hrow 1 c1 rfl
    have : c1 = .slice (some a) n c := by simpa [Value.cells] using hh
    rw [this] at hu
    exact has_lt hu)
  have e0' : c0 = .int .i64 n := by simpa [Value.cells] using e0
  have e1' : c1 = v1 := by simpa [Value.cells] using e1
  subst e0'; subst e1'
  exact ⟨n, es, .agg [I n, LP es] #[.int .i64 n, c1] rfl (fun j a u ha hu => by
    match j, ha, hu with
    | 0, ha, hu => cases ha; cases hu; exact .val _
    | 1, ha, hu => cases ha; cases hu; exact h6
    | j + 2, ha, hu => cases ha)⟩
/-- Nothing that was there before has turned: what the row asks of a call that hands back what it should. -/
theorem post_below {f : Func} {s : ChangeSpec} {apart fresh handsOn : Bool} {W W' : World} {args : Array Value} {v : Value} {ds gs : List (DataW H)} {before pa pv : List MemPlace}
    (hW : DataW.Whole enc P f.params.toList s.vars apart W args.toList ds gs before)
    (hres : ∀ (b : Nat) (sp : Nat → Bool) (hd : Bool), DataW.TrodAll enc P W' b sp hd f.resultTypes.toList (v.resultList f.resultTypes.size) (s.fn H (ds ++ gs)).results [])
    (hargs : DataW.TrodAll enc P W' 0 (fun b => decide (b < W.heap.size)) true f.params.toList args.toList (s.fn H (ds ++ gs)).args pa)
    (hvars : DataW.TrodVars enc P W' (fun b => decide (b < W.heap.size)) s.vars (s.fn H (ds ++ gs)).vars pv)
    (hps : before = pa ++ pv) (hk : W.keptBut W' (· ∈ before)) : s.post enc P f apart fresh handsOn false W args v W' := by
  refine ⟨ds, gs, before, [], pa, pv, hW, hres _ _ _, hargs, hvars, World.keptBut_mono (fun p hp => ⟨hp, ?_⟩) hk, fun h => by cases h⟩
  rw [hps, List.mem_append] at hp
  exact Or.inr hp
/-- What a contract says of a law that returns true. -/
theorem law_true {f : FuncId} {ins : List AV} (hS : Spec P f ins (B true) []) (W : World) (vs : Array Value) (hsz : vs.size = ins.length) (hro : ∀ (j : Nat) a u, ins[j]? = some a → vs[j]? = some u → RO W (okA W) a u) :
    Calls P f vs W fun e W' => e = .returned (.bool true) ∧ Below W.heap.size W W' :=
  (hS W 0 (okA W) (fun k h => h) vs hsz hro).mono fun e W' ⟨v, ψ, φ, he, hp, hr⟩ => by
    have hv : v = .bool true := by
      cases hr with
      | ro h => cases h with | val => rfl
    exact ⟨by rw [he, hv], hp.below.below (fun k _ h => h)⟩
end
end Go.Proofs.YtmiijpobhajfmaaGreat.J
namespace Go.Proofs.YtmiijpobhajfmaaGreat.J
open Go Go.RowKit
set_option maxRecDepth 20000
set_option linter.unusedVariables false
set_option linter.unusedSimpArgs false

theorem half_set {l : List Int} {i : Nat} (h : (i : Int) < l.length) : (l.take i ++ List.replicate (l.length - i) 0).set (i : Int).toNat (gi l (i : Int)) = l.take (i + 1) ++ List.replicate (l.length - (i + 1)) 0 := by
  rw [Int.toNat_natCast, take_gi (by omega), List.set_append_right _ _ (by rw [List.length_take]; omega), List.length_take, Nat.min_eq_left (by omega), Nat.sub_self, show l.length - i = (l.length - (i + 1)) + 1 by omega, List.replicate_succ]
  simp
def maxF (row : List Int) (l : List Int) : Int := l.foldl (fun m b => if m > gi row b then m else gi row b) 0
/-- The time that a row of times gives over a ball. -/
def afterR (row ball : List Int) : Int := if ball.all (fun b => decide (0 ≤ gi row b)) = true then maxF row ball else -1
theorem maxF_snoc {row l : List Int} {i : Nat} (h : i < l.length) : maxF row (l.take (i + 1)) = if maxF row (l.take i) > gi row (gi l i) then maxF row (l.take i) else gi row (gi l i) := by
  rw [take_gi h, maxF, List.foldl_append]; rfl
theorem after_bad {row ball : List Int} {i : Nat} (h : i < ball.length) (hb : gi row (gi ball i) < 0) : afterR row ball = -1 := by
  unfold afterR
  rw [if_neg]
  intro h2
  rw [List.all_eq_true] at h2
  have := h2 _ (gi_mem (l := ball) (i := i) (by omega))
  simp only [decide_eq_true_eq] at this
  omega
theorem after_good {row ball : List Int} {i : Nat} (h : ¬ (i : Int) < ball.length) (hb : (ball.take i).all (fun b => decide (0 ≤ gi row b)) = true) : afterR row ball = maxF row (ball.take i) := by
  rw [take_all h] at hb ⊢
  unfold afterR
  rw [if_pos hb]
def fleeS (row : List Int) (best b : Int) : Int := if 0 ≤ gi row best ∧ (gi row b < 0 ∨ gi row best < gi row b) then b else best
/-- The node of a ball to which the robber goes. -/
def fleeF (row ball : List Int) : Int := (ball.drop 1).foldl (fleeS row) (gi ball 0)
def inN (n x : Int) : Bool := decide (0 ≤ x) && decide (x ≤ n - 1)
def copB (n : Int) (cs : List Int) (i : Nat) : Bool := inN n (gi cs i) && (decide (i = 0) || decide (gi cs ((i : Int) - 1) ≤ gi cs i))
/-- A list of cops. -/
def copsG (n : Int) (cs : List Int) : Bool := (List.range cs.length).all (copB n cs)
def meetsG (n : Int) (es : List (Int × Int)) (cs : List Int) (x : Int) : Bool := fieldG n es cs.length && copsG n cs && inN n x && !cs.contains x
theorem good_rng {n : Int} {es : List (Int × Int)} (h : goodG n es = true) : 0 ≤ n ∧ n ≤ 8 := by
  simp only [goodG, Bool.and_eq_true, decide_eq_true_eq] at h
  exact h.1
theorem cops_no {n : Int} {cs : List Int} {i : Nat} (hi : i < cs.length) (h : copB n cs i = false) : copsG n cs = false := by
  unfold copsG
  rw [List.all_eq_false]
  exact ⟨i, by simpa using hi, by simp [h]⟩
theorem flee_snoc {row l : List Int} {i : Nat} (h : i < l.length) (a : Int) : (l.take (i + 1)).foldl (fleeS row) a = fleeS row ((l.take i).foldl (fleeS row) a) (gi l i) := by
  rw [take_gi h, List.foldl_append]; rfl
theorem fleeS_if (row : List Int) (a b : Int) : fleeS row a b = if 0 ≤ gi row a ∧ (gi row b < 0 ∨ gi row a < gi row b) then b else a := rfl
theorem drop1_take (l : List Int) : (l.take ((l.length : Nat) : Int).toNat).drop (Int.toNat 1) = l.drop 1 := by rw [Int.toNat_natCast, List.take_length]; rfl
theorem flee_mem {row : List Int} : ∀ (l : List Int) (a : Int), l.foldl (fleeS row) a = a ∨ l.foldl (fleeS row) a ∈ l
  | [], a => .inl rfl
  | b :: l, a => by
    rw [List.foldl_cons]
    rcases flee_mem l (fleeS row a b) with h | h
    · rw [h]; unfold fleeS; split
      · exact .inr (by simp)
      · exact .inl rfl
    · exact .inr (by simp [h])
theorem gi_drop {l : List Int} {i : Nat} (h : i + 1 < l.length) : gi (l.drop 1) (i : Int) = gi l ((i : Int) + 1) := by
  rw [show (i : Int) + 1 = ((i + 1 : Nat) : Int) by omega, gi_natG (by simp; omega), gi_natG h]
  simp [Nat.add_comm]

theorem Most_spec (a b : Int) : Spec Tryz.prog 123 [I a, I b] (I (if a > b then a else b)) [] := by
  refine Spec.intro (c := _) Tryz.func123 rfl (Nat.le_of_ble_eq_true rfl) (fun C hC hfx => ?_)
  have hn : C.n = 10 := hC
  refine (show J _ _ _ _ (⟨[(0, I a), (1, I b)], []⟩ : AS) from ?_)
  refine J_seq ?_
  refine J_region ?_
  refine jl rfl rfl (ltn hn rfl) (pure_assign rfl rfl) ?_
  refine JL_nil ?_
  refine J_seq ?_
  refine J_seq ?_
  refine J_region ?_
  refine jl rfl rfl (ltn hn rfl) (pure_move rfl rfl) ?_
  refine jl rfl rfl (ltn hn rfl) (pure_move rfl rfl) ?_
  refine jl rfl rfl (ltn hn rfl) (pure_gtr rfl rfl rfl) ?_
  refine JL_nil ?_
  refine J_cond_p rfl (fun h1 => ?_) (fun h1 => ?_)
  ·
    refine J_seq ?_
    refine J_region ?_
    refine jl rfl rfl (ltn hn rfl) (pure_move rfl rfl) ?_
    refine jl rfl rfl (ltn hn rfl) (pure_assign rfl rfl) ?_
    refine JL_nil ?_
    refine J_ret ?_
    exact Fin_one rfl (Le_one rfl (vi (by rw [if_pos h1])) rfl)
  ·
    refine J_skip ?_
    refine J_seq ?_
    refine J_region ?_
    refine jl rfl rfl (ltn hn rfl) (pure_move rfl rfl) ?_
    refine jl rfl rfl (ltn hn rfl) (pure_assign rfl rfl) ?_
    refine JL_nil ?_
    refine J_ret ?_
    exact Fin_one rfl (Le_one rfl (vi (by rw [if_neg h1])) rfl)
theorem Node_spec (n : Int) (es : List (Int × Int)) (x : Int) (hnb : -1000 ≤ n ∧ n ≤ 1000) : Spec Tryz.prog 116 [Gr n es, I x] (B (inN n x)) [] := by
  refine Spec.intro (c := _) Tryz.func116 rfl (Nat.le_of_ble_eq_true rfl) (fun C hC hfx => ?_)
  have hn : C.n = 10 := hC
  refine (show J _ _ _ _ (⟨[(0, Gr n es), (1, I x)], []⟩ : AS) from ?_)
  refine J_seq ?_
  refine J_region ?_
  refine jl_o rfl (op_box_agg rfl rfl (ltn hn rfl) rfl rfl rfl) ?_
  refine jl rfl rfl (ltn hn rfl) (pure_assign rfl rfl) ?_
  refine JL_nil ?_
  refine J_seq ?_
  refine J_region ?_
  refine jl rfl rfl (ltn hn rfl) (pure_move rfl rfl) ?_
  refine jl rfl rfl (ltn hn rfl) (p_fld_b rfl rfl rfl) ?_
  refine jl rfl rfl (ltn hn rfl) (p_ld_b rfl rfl rfl rfl) ?_
  refine jl rfl rfl (ltn hn rfl) (pure_sub rfl rfl rfl (by omega)) ?_
  refine jl_o rfl (@op_call _ _ _ _ _ _ [.tmp 5, .const (.int .i64 0), .tmp 8] _ _ _ _ _ (In_spec _ _ _) rfl Tryz.func82 rfl rfl rfl (ltn hn rfl) ⟨rfl, rfl, ⟨rfl, rfl, ⟨rfl, rfl, trivial⟩⟩⟩ rfl rfl) ?_
  refine jl rfl rfl (ltn hn rfl) (pure_assign rfl rfl) ?_
  refine JL_nil ?_
  refine J_ret ?_
  exact Fin_one rfl (Le_one rfl (vb (by rfl)) rfl)
theorem CopsS_spec (n : Int) (es : List (Int × Int)) (cs : List Int) (hnb : -1000 ≤ n ∧ n ≤ 1000) (hl : cs.length < 2^40) : Spec Tryz.prog 81 [Gr n es, L cs] (B (copsG n cs)) [] := by
  refine Spec.intro (c := _) Tryz.func81 rfl (Nat.le_of_ble_eq_true rfl) (fun C hC hfx => ?_)
  have hn : C.n = 35 := hC
  refine (show J _ _ _ _ (⟨[(0, Gr n es), (1, L cs)], []⟩ : AS) from ?_)
  refine J_seq ?_
  refine J_region ?_
  refine jl_o rfl (op_box_agg rfl rfl (ltn hn rfl) rfl rfl rfl) ?_
  refine jl rfl rfl (ltn hn rfl) (pure_assign rfl rfl) ?_
  refine JL_nil ?_
  refine J_seq ?_
  refine J_seq ?_
  refine J_region ?_
  refine jl rfl rfl (ltn hn rfl) (pure_assign rfl rfl) ?_
  refine JL_nil ?_
  refine J_block ?_
  refine J_loop (X := Nat) (fun i => ⟨[(1, L cs), (2, .box 2 0), (5, I (i : Nat))], [(2, .box 30 [I n, LP es])]⟩) (fun i => i ≤ cs.length ∧ (List.range i).all (copB n cs) = true) (fun i => cs.length - i) 0 ?_ ?_ ?_
  · exact ⟨by omega, by simp⟩
  ·
    refine Le_sub C _ _ ⟨rfl, ⟨rfl, ⟨rfl, trivial⟩⟩⟩ ⟨rfl, trivial⟩ rfl rfl
  ·
    intro i hR
    obtain ⟨hi, hc⟩ := hR
    refine J_seq ?_
    refine J_seq ?_
    refine J_region ?_
    refine jl rfl rfl (ltn hn rfl) (pure_move rfl rfl) ?_
    refine jl rfl rfl (ltn hn rfl) (pure_move rfl rfl) ?_
    refine jl rfl rfl (ltn hn rfl) (p_len_m rfl rfl) ?_
    refine jl rfl rfl (ltn hn rfl) (pure_lss rfl rfl rfl) ?_
    refine JL_nil ?_
    refine J_cond_p rfl (fun h1 => ?_) (fun h1 => ?_)
    ·
      refine J_skip ?_
      refine J_seq ?_
      refine J_block ?_
      refine J_seq ?_
      refine J_draw follows_mixed (by kernel_rfl) ?_
      refine jq rfl rfl (ltn hn rfl) (p_ld_ba rfl rfl rfl (Nat.le_of_ble_eq_true rfl) rfl) ?_
      refine jq rfl rfl (ltn hn rfl) (pure_move rfl rfl) ?_
      refine jq rfl rfl (ltn hn rfl) (pure_move rfl rfl) ?_
      refine jq rfl rfl (ltn hn rfl) (p_idx rfl rfl rfl (by omega) (mget (by omega))) ?_
      refine jq rfl rfl (ltn hn rfl) (p_ld rfl rfl rfl) ?_
      refine JQ_call (args := [.tmp 12, .tmp 16]) rfl (Node_spec _ _ _ (by omega)) rfl Tryz.func116 rfl rfl rfl (ltn hn rfl) ⟨rfl, rfl, ⟨rfl, rfl, trivial⟩⟩ ?_
      refine jq rfl rfl (ltn hn rfl) (pure_not_b rfl rfl) ?_
      refine jq rfl rfl (ltn hn rfl) (pure_move rfl rfl) ?_
      refine jq_split_b rfl rfl rfl (fun h2 => ?_) (fun h2 => ?_)
      ·
        refine jq_s rfl rfl (ltn hn rfl) ?_
        refine jq_s rfl rfl (ltn hn rfl) ?_
        refine jq_s rfl rfl (ltn hn rfl) ?_
        refine jq_s rfl rfl (ltn hn rfl) ?_
        refine jq_s rfl rfl (ltn hn rfl) ?_
        refine jq_s rfl rfl (ltn hn rfl) ?_
        refine jq_s rfl rfl (ltn hn rfl) ?_
        refine jq_s rfl rfl (ltn hn rfl) ?_
        refine jq_s rfl rfl (ltn hn rfl) ?_
        refine jq_s rfl rfl (ltn hn rfl) ?_
        refine jq_s rfl rfl (ltn hn rfl) ?_
        refine jq_s rfl rfl (ltn hn rfl) ?_
        refine jq_s rfl rfl (ltn hn rfl) ?_
        refine jq_s rfl rfl (ltn hn rfl) ?_
        refine jq rfl rfl (ltn hn rfl) (pure_pick_t rfl rfl rfl) ?_
        refine JQ_nil ?_
        refine J_cond_t rfl ?_
        refine J_seq ?_
        refine J_region ?_
        refine jl rfl rfl (ltn hn rfl) (pure_assign rfl rfl) ?_
        refine JL_nil ?_
        refine J_ret ?_
        exact Fin_one rfl (Le_one rfl (vb (by first | exact (cops_no (i := i) (by omega) (by simp_all [copB] <;> omega)).symm | (have e : i = cs.length := (by omega); subst e; exact hc.symm))) rfl)
      ·
        refine jq rfl rfl (ltn hn rfl) (pure_move rfl rfl) ?_
        refine jq rfl rfl (ltn hn rfl) (pure_gtr rfl rfl rfl) ?_
        refine jq rfl rfl (ltn hn rfl) (pure_move rfl rfl) ?_
        refine jq_split rfl rfl rfl (fun h3 => ?_) (fun h3 => ?_)
        ·
          refine jq rfl rfl (ltn hn rfl) (pure_move rfl rfl) ?_
          refine jq rfl rfl (ltn hn rfl) (pure_move rfl rfl) ?_
          refine jq rfl rfl (ltn hn rfl) (pure_sub rfl rfl rfl (by omega)) ?_
          refine jq rfl rfl (ltn hn rfl) (p_idx rfl rfl rfl (by omega) (mget (by omega))) ?_
          refine jq rfl rfl (ltn hn rfl) (p_ld rfl rfl rfl) ?_
          refine jq rfl rfl (ltn hn rfl) (pure_move rfl rfl) ?_
          refine jq rfl rfl (ltn hn rfl) (pure_move rfl rfl) ?_
          refine jq rfl rfl (ltn hn rfl) (p_idx rfl rfl rfl (by omega) (mget (by omega))) ?_
          refine jq rfl rfl (ltn hn rfl) (p_ld rfl rfl rfl) ?_
          refine jq rfl rfl (ltn hn rfl) (pure_gtr rfl rfl rfl) ?_
          refine jq rfl rfl (ltn hn rfl) (pure_pick_t rfl rfl rfl) ?_
          refine jq rfl rfl (ltn hn rfl) (pure_pick_f rfl rfl rfl) ?_
          refine JQ_nil ?_
          refine J_cond_p rfl (fun h4 => ?_) (fun h4 => ?_)
          ·
            refine J_seq ?_
            refine J_region ?_
            refine jl rfl rfl (ltn hn rfl) (pure_assign rfl rfl) ?_
            refine JL_nil ?_
            refine J_ret ?_
            exact Fin_one rfl (Le_one rfl (vb (by first | exact (cops_no (i := i) (by omega) (by simp_all [copB] <;> omega)).symm | (have e : i = cs.length := (by omega); subst e; exact hc.symm))) rfl)
          ·
            refine J_skip ?_
            refine J_region ?_
            refine jl rfl rfl (ltn hn rfl) (pure_move rfl rfl) ?_
            refine jl rfl rfl (ltn hn rfl) (pure_add rfl rfl rfl (by omega)) ?_
            refine jl rfl rfl (ltn hn rfl) (pure_assign rfl rfl) ?_
            refine JL_nil ?_
            refine ⟨i + 1, ?_, ?_, ?_⟩
            · exact ⟨by omega, range_all_step hc (by simp_all [copB] <;> omega)⟩
            · omega
            ·
              refine Le_sub C _ _ ⟨rfl, ⟨rfl, ⟨(eqv rfl (vi (by omega))), trivial⟩⟩⟩ ⟨rfl, trivial⟩ rfl rfl
        ·
          refine jq_s rfl rfl (ltn hn rfl) ?_
          refine jq_s rfl rfl (ltn hn rfl) ?_
          refine jq_s rfl rfl (ltn hn rfl) ?_
          refine jq_s rfl rfl (ltn hn rfl) ?_
          refine jq_s rfl rfl (ltn hn rfl) ?_
          refine jq_s rfl rfl (ltn hn rfl) ?_
          refine jq_s rfl rfl (ltn hn rfl) ?_
          refine jq_s rfl rfl (ltn hn rfl) ?_
          refine jq_s rfl rfl (ltn hn rfl) ?_
          refine jq_s rfl rfl (ltn hn rfl) ?_
          refine jq rfl rfl (ltn hn rfl) (pure_pick_f rfl rfl rfl) ?_
          refine jq rfl rfl (ltn hn rfl) (pure_pick_f rfl rfl rfl) ?_
          refine JQ_nil ?_
          refine J_cond_f rfl ?_
          refine J_skip ?_
          refine J_region ?_
          refine jl rfl rfl (ltn hn rfl) (pure_move rfl rfl) ?_
          refine jl rfl rfl (ltn hn rfl) (pure_add rfl rfl rfl (by omega)) ?_
          refine jl rfl rfl (ltn hn rfl) (pure_assign rfl rfl) ?_
          refine JL_nil ?_
          refine ⟨i + 1, ?_, ?_, ?_⟩
          · exact ⟨by omega, range_all_step hc (by simp_all [copB] <;> omega)⟩
          · omega
          ·
            refine Le_sub C _ _ ⟨rfl, ⟨rfl, ⟨(eqv rfl (vi (by omega))), trivial⟩⟩⟩ ⟨rfl, trivial⟩ rfl rfl
    ·
      refine J_exit ?_
      refine J_seq ?_
      refine J_region ?_
      refine jl rfl rfl (ltn hn rfl) (pure_assign rfl rfl) ?_
      refine JL_nil ?_
      refine J_ret ?_
      exact Fin_one rfl (Le_one rfl (vb (by first | exact (cops_no (i := i) (by omega) (by simp_all [copB] <;> omega)).symm | (have e : i = cs.length := (by omega); subst e; exact hc.symm))) rfl)
theorem AllIn_spec (l : List Int) (a b : Int) (hl : l.length < 2^40) : Spec Tryz.prog 119 [L l, I a, I b] (B (l.all (fun x => decide (a ≤ x) && decide (x ≤ b)))) [] := by
  refine Spec.intro (c := _) Tryz.func119 rfl (Nat.le_of_ble_eq_true rfl) (fun C hC hfx => ?_)
  have hn : C.n = 21 := hC
  refine (show J _ _ _ _ (⟨[(0, L l), (1, I a), (2, I b)], []⟩ : AS) from ?_)
  refine J_seq ?_
  refine J_region ?_
  refine jl rfl rfl (ltn hn rfl) (pure_assign rfl rfl) ?_
  refine JL_nil ?_
  refine J_seq ?_
  refine J_seq ?_
  refine J_region ?_
  refine jl rfl rfl (ltn hn rfl) (pure_move rfl rfl) ?_
  refine jl rfl rfl (ltn hn rfl) (p_len_m rfl rfl) ?_
  refine jl rfl rfl (ltn hn rfl) (pure_move rfl rfl) ?_
  refine JL_nil ?_
  refine J_block ?_
  refine J_loop (X := Nat) (fun i => ⟨[(1, I a), (2, I b), (9, L l), (10, I (l.length : Int)), (11, I (i : Nat))], []⟩) (fun i => i ≤ l.length ∧ (l.take i).all (fun x => decide (a ≤ x) && decide (x ≤ b)) = true) (fun i => l.length - i) 0 ?_ ?_ ?_
  · exact ⟨by omega, by simp⟩
  ·
    refine Le_sub C _ _ ⟨rfl, ⟨rfl, ⟨rfl, ⟨rfl, ⟨rfl, trivial⟩⟩⟩⟩⟩ trivial rfl rfl
  ·
    intro i hR
    obtain ⟨hi, hc⟩ := hR
    refine J_seq ?_
    refine J_region ?_
    refine jl rfl rfl (ltn hn rfl) (pure_lss rfl rfl rfl) ?_
    refine JL_nil ?_
    refine J_seq ?_
    refine J_cond_p rfl (fun h1 => ?_) (fun h1 => ?_)
    ·
      refine J_skip ?_
      refine J_seq ?_
      refine J_block ?_
      refine J_seq ?_
      refine J_region ?_
      refine jl rfl rfl (ltn hn rfl) (p_idx rfl rfl rfl (by omega) (mget (by omega))) ?_
      refine jl rfl rfl (ltn hn rfl) (p_ld rfl rfl rfl) ?_
      refine jl rfl rfl (ltn hn rfl) (pure_assign rfl rfl) ?_
      refine JL_nil ?_
      refine J_seq ?_
      refine J_region ?_
      refine jl rfl rfl (ltn hn rfl) (pure_move rfl rfl) ?_
      refine jl rfl rfl (ltn hn rfl) (pure_move rfl rfl) ?_
      refine jl rfl rfl (ltn hn rfl) (pure_move rfl rfl) ?_
      refine jl_o rfl (@op_call _ _ _ _ _ _ [.tmp 15, .tmp 16, .tmp 17] _ _ _ _ _ (Within_spec _ _ _) rfl Tryz.func83 rfl rfl rfl (ltn hn rfl) ⟨rfl, rfl, ⟨rfl, rfl, ⟨rfl, rfl, trivial⟩⟩⟩ rfl rfl) ?_
      refine jl rfl rfl (ltn hn rfl) (pure_not_b rfl rfl) ?_
      refine JL_nil ?_
      refine J_cond rfl (fun h2 => ?_) (fun h2 => ?_)
      ·
        refine J_seq ?_
        refine J_region ?_
        refine jl rfl rfl (ltn hn rfl) (pure_assign rfl rfl) ?_
        refine JL_nil ?_
        refine J_ret ?_
        exact Fin_one rfl (Le_one rfl (vb (by symm; rw [List.all_eq_false]; exact ⟨_, gi_mem (l := l) (i := i) (by omega), by simp_all <;> omega⟩)) rfl)
      ·
        refine J_skip ?_
        refine J_region ?_
        refine jl rfl rfl (ltn hn rfl) (pure_add rfl rfl rfl (by omega)) ?_
        refine jl rfl rfl (ltn hn rfl) (pure_move rfl rfl) ?_
        refine JL_nil ?_
        refine ⟨i + 1, ?_, ?_, ?_⟩
        · exact ⟨by omega, by rw [take_gi (by omega), List.all_append, hc]; simp_all⟩
        · omega
        ·
          refine Le_sub C _ _ ⟨rfl, ⟨rfl, ⟨rfl, ⟨rfl, ⟨(eqv rfl (vi (by omega))), trivial⟩⟩⟩⟩⟩ trivial rfl rfl
    ·
      refine J_exit ?_
      refine J_seq ?_
      refine J_region ?_
      refine jl rfl rfl (ltn hn rfl) (pure_assign rfl rfl) ?_
      refine JL_nil ?_
      refine J_ret ?_
      exact Fin_one rfl (Le_one rfl (vb (by rw [take_all h1] at hc; exact hc.symm)) rfl)
theorem ToL_spec (l : List Int) (hl : l.length < 2^40) : Spec Tryz.prog 34 [L l] (L l) [] := by
  refine Spec.intro (c := _) Tryz.func34 rfl (Nat.le_of_ble_eq_true rfl) (fun C hC hfx => ?_)
  have hn : C.n = 22 := hC
  refine (show J _ _ _ _ (⟨[(0, L l)], []⟩ : AS) from ?_)
  refine J_seq ?_
  refine J_region ?_
  refine jl rfl rfl (ltn hn rfl) (pure_assign rfl rfl) ?_
  refine JL_nil ?_
  refine J_seq ?_
  refine J_region ?_
  refine jl rfl rfl (ltn hn rfl) (pure_move rfl rfl) ?_
  refine jl rfl rfl (ltn hn rfl) (p_len_m rfl rfl) ?_
  refine jl_o rfl (@op_make_m _ _ _ _ _ cI 0 _ _ _ _ _ _ _ _ _ SlT.slk ZrT.out rfl rfl rfl (ltn hn rfl) rfl rfl rfl (by omega) (by omega) (by omega)) ?_
  refine jl rfl rfl (ltn hn rfl) (pure_assign rfl rfl) ?_
  refine JL_nil ?_
  refine J_seq ?_
  refine J_seq ?_
  refine J_region ?_
  refine jl rfl rfl (ltn hn rfl) (pure_assign rfl rfl) ?_
  refine JL_nil ?_
  refine J_block ?_
  refine J_loop (X := Nat) (fun i => ⟨[(0, L l), (3, .own 7 []), (4, I (i : Nat))], [(7, Ow 3 1 cI (l.take i ++ List.replicate (l.length - i) 0))]⟩) (fun i => i ≤ l.length) (fun i => l.length - i) 0 ?_ ?_ ?_
  · omega
  ·
    refine Le_sub C _ _ ⟨rfl, ⟨rfl, ⟨rfl, trivial⟩⟩⟩ ⟨(eqv rfl (by simp)), trivial⟩ rfl rfl
  ·
    intro i hi
    refine J_seq ?_
    refine J_seq ?_
    refine J_region ?_
    refine jl rfl rfl (ltn hn rfl) (pure_move rfl rfl) ?_
    refine jl rfl rfl (ltn hn rfl) (pure_move rfl rfl) ?_
    refine jl rfl rfl (ltn hn rfl) (p_len_m rfl rfl) ?_
    refine jl rfl rfl (ltn hn rfl) (pure_lss rfl rfl rfl) ?_
    refine JL_nil ?_
    refine J_cond_p rfl (fun h1 => ?_) (fun h1 => ?_)
    ·
      refine J_skip ?_
      refine J_seq ?_
      refine J_block ?_
      refine J_region ?_
      refine jl rfl rfl (ltn hn rfl) (pure_move rfl rfl) ?_
      refine jl rfl rfl (ltn hn rfl) (pure_move rfl rfl) ?_
      refine jl rfl rfl (ltn hn rfl) (pure_move rfl rfl) ?_
      refine jl rfl rfl (ltn hn rfl) (pure_move rfl rfl) ?_
      refine jl rfl rfl (ltn hn rfl) (p_idx rfl rfl rfl (by omega) (mget (by omega))) ?_
      refine jl rfl rfl (ltn hn rfl) (p_ld rfl rfl rfl) ?_
      refine jl rfl rfl (ltn hn rfl) (p_idx_own_m rfl rfl rfl rfl (by first | (simp; omega) | simp | omega) (by first | (simp; omega) | simp | omega)) ?_
      refine jl_o rfl (@op_store_row_m _ _ _ _ _ cI _ _ _ _ _ _ _ _ _ SzT.out rfl rfl rfl rfl rfl rfl rfl rfl (fun _ => rfl) (by first | (simp; omega) | simp | omega)) ?_
      refine JL_nil ?_
      refine J_region ?_
      refine jl rfl rfl (ltn hn rfl) (pure_move rfl rfl) ?_
      refine jl rfl rfl (ltn hn rfl) (pure_add rfl rfl rfl (by omega)) ?_
      refine jl rfl rfl (ltn hn rfl) (pure_assign rfl rfl) ?_
      refine JL_nil ?_
      refine ⟨i + 1, ?_, ?_, ?_⟩
      · omega
      · omega
      ·
        refine Le_sub C _ _ ⟨rfl, ⟨rfl, ⟨(eqv rfl (vi (by omega))), trivial⟩⟩⟩ ⟨(eqv rfl (by rw [half_set h1])), trivial⟩ rfl rfl
    ·
      refine J_exit ?_
      refine J_seq ?_
      refine J_region ?_
      refine jl rfl rfl (ltn hn rfl) (pure_move rfl rfl) ?_
      refine jl rfl rfl (ltn hn rfl) (pure_assign rfl rfl) ?_
      refine JL_nil ?_
      refine J_ret ?_
      exact Fin_one rfl (Le.trans (Le_frz 7 rfl rfl) (Le_one rfl (congrArg L (by rw [take_all (l := l) (i := i) h1]; simp; omega)) rfl))
theorem EqL_spec (a b : List Int) (ha : a.length < 2^40) (hb : b.length < 2^40) : Spec Tryz.prog 26 [L a, L b] (B (decide (a = b))) [] := by
  refine Spec.intro (c := _) Tryz.func26 rfl (Nat.le_of_ble_eq_true rfl) (fun C hC hfx => ?_)
  have hn : C.n = 26 := hC
  refine (show J _ _ _ _ (⟨[(0, L a), (1, L b)], []⟩ : AS) from ?_)
  refine J_seq ?_
  refine J_region ?_
  refine jl rfl rfl (ltn hn rfl) (pure_assign rfl rfl) ?_
  refine JL_nil ?_
  refine J_seq ?_
  refine J_seq ?_
  refine J_region ?_
  refine jl rfl rfl (ltn hn rfl) (pure_move rfl rfl) ?_
  refine jl rfl rfl (ltn hn rfl) (p_len_m rfl rfl) ?_
  refine jl rfl rfl (ltn hn rfl) (pure_move rfl rfl) ?_
  refine jl rfl rfl (ltn hn rfl) (p_len_m rfl rfl) ?_
  refine jl rfl rfl (ltn hn rfl) (pure_neq rfl rfl rfl) ?_
  refine JL_nil ?_
  refine J_cond_p rfl (fun h1 => ?_) (fun h1 => ?_)
  ·
    refine J_seq ?_
    refine J_region ?_
    refine jl rfl rfl (ltn hn rfl) (pure_assign rfl rfl) ?_
    refine JL_nil ?_
    refine J_ret ?_
    exact Fin_one rfl (Le_one rfl (vb (by symm; simp only [decide_eq_false_iff_not]; rintro rfl; exact h1 rfl)) rfl)
  ·
    refine J_skip ?_
    refine J_seq ?_
    refine J_seq ?_
    refine J_region ?_
    refine jl rfl rfl (ltn hn rfl) (pure_assign rfl rfl) ?_
    refine JL_nil ?_
    refine J_block ?_
    have hlen : a.length = b.length := by omega
    refine J_loop (X := Nat) (fun i => ⟨[(0, L a), (1, L b), (5, I (i : Nat))], []⟩) (fun i => i ≤ a.length ∧ a.take i = b.take i) (fun i => a.length - i) 0 ?_ ?_ ?_
    · exact ⟨by omega, by simp⟩
    ·
      refine Le_sub C _ _ ⟨rfl, ⟨rfl, ⟨rfl, trivial⟩⟩⟩ trivial rfl rfl
    ·
      intro i hR
      obtain ⟨hi, hc⟩ := hR
      refine J_seq ?_
      refine J_seq ?_
      refine J_region ?_
      refine jl rfl rfl (ltn hn rfl) (pure_move rfl rfl) ?_
      refine jl rfl rfl (ltn hn rfl) (pure_move rfl rfl) ?_
      refine jl rfl rfl (ltn hn rfl) (p_len_m rfl rfl) ?_
      refine jl rfl rfl (ltn hn rfl) (pure_lss rfl rfl rfl) ?_
      refine JL_nil ?_
      refine J_cond_p rfl (fun h2 => ?_) (fun h2 => ?_)
      ·
        refine J_skip ?_
        refine J_seq ?_
        refine J_block ?_
        refine J_seq ?_
        refine J_draw follows_mixed (by kernel_rfl) ?_
        refine jq rfl rfl (ltn hn rfl) (pure_move rfl rfl) ?_
        refine jq rfl rfl (ltn hn rfl) (pure_move rfl rfl) ?_
        refine jq rfl rfl (ltn hn rfl) (p_idx rfl rfl rfl (by omega) (mget (by omega))) ?_
        refine jq rfl rfl (ltn hn rfl) (p_ld rfl rfl rfl) ?_
        refine jq rfl rfl (ltn hn rfl) (pure_move rfl rfl) ?_
        refine jq rfl rfl (ltn hn rfl) (pure_move rfl rfl) ?_
        refine jq rfl rfl (ltn hn rfl) (p_idx rfl rfl rfl (by omega) (mget (by omega))) ?_
        refine jq rfl rfl (ltn hn rfl) (p_ld rfl rfl rfl) ?_
        refine jq rfl rfl (ltn hn rfl) (pure_neq rfl rfl rfl) ?_
        refine JQ_nil ?_
        refine J_cond_p rfl (fun h3 => ?_) (fun h3 => ?_)
        ·
          refine J_seq ?_
          refine J_region ?_
          refine jl rfl rfl (ltn hn rfl) (pure_assign rfl rfl) ?_
          refine JL_nil ?_
          refine J_ret ?_
          exact Fin_one rfl (Le_one rfl (vb (by exact (ne_gi h3).symm)) rfl)
        ·
          refine J_skip ?_
          refine J_region ?_
          refine jl rfl rfl (ltn hn rfl) (pure_move rfl rfl) ?_
          refine jl rfl rfl (ltn hn rfl) (pure_add rfl rfl rfl (by omega)) ?_
          refine jl rfl rfl (ltn hn rfl) (pure_assign rfl rfl) ?_
          refine JL_nil ?_
          refine ⟨i + 1, ?_, ?_, ?_⟩
          · exact ⟨by omega, by rw [take_gi (by omega), take_gi (by omega), hc, Decidable.not_not.1 h3]⟩
          · omega
          ·
            refine Le_sub C _ _ ⟨rfl, ⟨rfl, ⟨(eqv rfl (vi (by omega))), trivial⟩⟩⟩ trivial rfl rfl
      ·
        refine J_exit ?_
        refine J_seq ?_
        refine J_region ?_
        refine jl rfl rfl (ltn hn rfl) (pure_assign rfl rfl) ?_
        refine JL_nil ?_
        refine J_ret ?_
        exact Fin_one rfl (Le_one rfl (vb (by exact (eq_take hlen hc h2).symm)) rfl)
theorem After_spec (cfg mv balls tbl : List (List Int)) (c x : Int) (hc0 : 0 ≤ c) (hc1 : c.toNat < cfg.length) (hc2 : c.toNat < tbl.length) (hx0 : 0 ≤ x) (hx1 : x.toNat < balls.length) (hbl : (gi balls x).length < 2^40) (hcl : (gi cfg c).length < 2^40) (hbb : ∀ b ∈ gi balls x, 0 ≤ b ∧ b.toNat < (gi tbl c).length) : Spec Tryz.prog 111 [.agg [LL cfg, LL mv, LL balls], LL tbl, I c, I x] (I (if (gi cfg c).contains x = true then 0 else afterR (gi tbl c) (gi balls x))) [] := by
  refine Spec.intro (c := _) Tryz.func111 rfl (Nat.le_of_ble_eq_true rfl) (fun C hC hfx => ?_)
  have hn : C.n = 54 := hC
  refine (show J _ _ _ _ (⟨[(0, .agg [LL cfg, LL mv, LL balls]), (1, LL tbl), (2, I c), (3, I x)], []⟩ : AS) from ?_)
  refine J_seq ?_
  refine J_region ?_
  refine jl_o rfl (op_box_agg rfl rfl (ltn hn rfl) rfl rfl rfl) ?_
  refine jl rfl rfl (ltn hn rfl) (pure_assign rfl rfl) ?_
  refine JL_nil ?_
  refine J_seq ?_
  refine J_seq ?_
  refine J_region ?_
  refine jl rfl rfl (ltn hn rfl) (p_fld_b rfl rfl rfl) ?_
  refine jl rfl rfl (ltn hn rfl) (p_ld_b rfl rfl rfl rfl) ?_
  refine jl rfl rfl (ltn hn rfl) (pure_move rfl rfl) ?_
  refine jl rfl rfl (ltn hn rfl) (p_idx rfl rfl rfl (by omega) (mget (by omega))) ?_
  refine jl rfl rfl (ltn hn rfl) (p_ld rfl rfl rfl) ?_
  refine jl rfl rfl (ltn hn rfl) (pure_move rfl rfl) ?_
  refine jl_o rfl (@op_call _ _ _ _ _ _ [.tmp 16, .tmp 17] _ _ _ _ _ (Has_spec _ _ (by omega)) rfl Tryz.func60 rfl rfl rfl (ltn hn rfl) ⟨rfl, rfl, ⟨rfl, rfl, trivial⟩⟩ rfl rfl) ?_
  refine JL_nil ?_
  refine J_cond rfl (fun h1 => ?_) (fun h1 => ?_)
  ·
    refine J_seq ?_
    refine J_region ?_
    refine jl rfl rfl (ltn hn rfl) (pure_assign rfl rfl) ?_
    refine JL_nil ?_
    refine J_ret ?_
    exact Fin_one rfl (Le_one rfl (vi (by rw [if_pos h1])) rfl)
  ·
    refine J_skip ?_
    refine J_seq ?_
    refine J_draw follows_mixed (by kernel_rfl) ?_
    refine jq rfl rfl (ltn hn rfl) (p_fld_b rfl rfl rfl) ?_
    refine jq rfl rfl (ltn hn rfl) (p_ld_b rfl rfl rfl rfl) ?_
    refine jq rfl rfl (ltn hn rfl) (pure_move rfl rfl) ?_
    refine jq rfl rfl (ltn hn rfl) (p_idx rfl rfl rfl (by omega) (mget (by omega))) ?_
    refine jq rfl rfl (ltn hn rfl) (p_ld rfl rfl rfl) ?_
    refine jq rfl rfl (ltn hn rfl) (pure_assign rfl rfl) ?_
    refine jq rfl rfl (ltn hn rfl) (pure_assign rfl rfl) ?_
    refine JQ_nil ?_
    refine J_seq ?_
    refine J_seq ?_
    refine J_region ?_
    refine jl rfl rfl (ltn hn rfl) (pure_assign rfl rfl) ?_
    refine JL_nil ?_
    refine J_block ?_
    refine J_loop (X := Nat) (fun i => ⟨[(1, LL tbl), (2, I c), (9, I (maxF (gi tbl c) ((gi balls x).take i))), (10, L (gi balls x)), (11, I (i : Nat))], []⟩) (fun i => i ≤ (gi balls x).length ∧ ((gi balls x).take i).all (fun b => decide (0 ≤ gi (gi tbl c) b)) = true) (fun i => (gi balls x).length - i) 0 ?_ ?_ ?_
    · exact ⟨by omega, by simp⟩
    ·
      refine Le_sub C _ _ ⟨rfl, ⟨rfl, ⟨rfl, ⟨rfl, ⟨rfl, trivial⟩⟩⟩⟩⟩ trivial rfl rfl
    ·
      intro i hR
      obtain ⟨hi, hc⟩ := hR
      refine J_seq ?_
      refine J_seq ?_
      refine J_region ?_
      refine jl rfl rfl (ltn hn rfl) (pure_move rfl rfl) ?_
      refine jl rfl rfl (ltn hn rfl) (pure_move rfl rfl) ?_
      refine jl rfl rfl (ltn hn rfl) (p_len_m rfl rfl) ?_
      refine jl rfl rfl (ltn hn rfl) (pure_lss rfl rfl rfl) ?_
      refine JL_nil ?_
      refine J_cond_p rfl (fun h2 => ?_) (fun h2 => ?_)
      ·
        have hbi := hbb _ (gi_mem (l := (gi balls x)) (i := i) (by omega))
        refine J_skip ?_
        refine J_seq ?_
        refine J_block ?_
        refine J_seq ?_
        refine J_seq ?_
        refine J_draw follows_mixed (by kernel_rfl) ?_
        refine jq rfl rfl (ltn hn rfl) (pure_move rfl rfl) ?_
        refine jq rfl rfl (ltn hn rfl) (pure_move rfl rfl) ?_
        refine jq rfl rfl (ltn hn rfl) (p_idx rfl rfl rfl (by omega) (mget (by omega))) ?_
        refine jq rfl rfl (ltn hn rfl) (p_ld rfl rfl rfl) ?_
        refine jq rfl rfl (ltn hn rfl) (pure_move rfl rfl) ?_
        refine jq rfl rfl (ltn hn rfl) (pure_move rfl rfl) ?_
        refine jq rfl rfl (ltn hn rfl) (p_idx rfl rfl rfl (by omega) (mget (by omega))) ?_
        refine jq rfl rfl (ltn hn rfl) (p_ld rfl rfl rfl) ?_
        refine jq rfl rfl (ltn hn rfl) (p_idx rfl rfl rfl (by omega) (mget (by omega))) ?_
        refine jq rfl rfl (ltn hn rfl) (p_ld rfl rfl rfl) ?_
        refine jq rfl rfl (ltn hn rfl) (pure_lss rfl rfl rfl) ?_
        refine JQ_nil ?_
        refine J_cond_p rfl (fun h3 => ?_) (fun h3 => ?_)
        ·
          refine J_seq ?_
          refine J_region ?_
          refine jl rfl rfl (ltn hn rfl) (pure_assign rfl rfl) ?_
          refine JL_nil ?_
          refine J_ret ?_
          exact Fin_one rfl (Le_one rfl (vi (by rw [if_neg (by rw [h1]; decide), after_bad (i := i) (by omega) (by omega)])) rfl)
        ·
          refine J_skip ?_
          refine J_draw follows_mixed (by kernel_rfl) ?_
          refine jq rfl rfl (ltn hn rfl) (pure_move rfl rfl) ?_
          refine jq rfl rfl (ltn hn rfl) (pure_move rfl rfl) ?_
          refine jq rfl rfl (ltn hn rfl) (pure_move rfl rfl) ?_
          refine jq rfl rfl (ltn hn rfl) (p_idx rfl rfl rfl (by omega) (mget (by omega))) ?_
          refine jq rfl rfl (ltn hn rfl) (p_ld rfl rfl rfl) ?_
          refine jq rfl rfl (ltn hn rfl) (pure_move rfl rfl) ?_
          refine jq rfl rfl (ltn hn rfl) (pure_move rfl rfl) ?_
          refine jq rfl rfl (ltn hn rfl) (p_idx rfl rfl rfl (by omega) (mget (by omega))) ?_
          refine jq rfl rfl (ltn hn rfl) (p_ld rfl rfl rfl) ?_
          refine jq rfl rfl (ltn hn rfl) (p_idx rfl rfl rfl (by omega) (mget (by omega))) ?_
          refine jq rfl rfl (ltn hn rfl) (p_ld rfl rfl rfl) ?_
          refine JQ_call (args := [.tmp 41, .tmp 51]) rfl (Most_spec _ _) rfl Tryz.func123 rfl rfl rfl (ltn hn rfl) ⟨rfl, rfl, ⟨rfl, rfl, trivial⟩⟩ ?_
          refine jq rfl rfl (ltn hn rfl) (pure_assign rfl rfl) ?_
          refine JQ_nil ?_
          refine J_region ?_
          refine jl rfl rfl (ltn hn rfl) (pure_move rfl rfl) ?_
          refine jl rfl rfl (ltn hn rfl) (pure_add rfl rfl rfl (by omega)) ?_
          refine jl rfl rfl (ltn hn rfl) (pure_assign rfl rfl) ?_
          refine JL_nil ?_
          refine ⟨i + 1, ?_, ?_, ?_⟩
          · exact ⟨by omega, all_step' h2 hc (by simp; omega)⟩
          · omega
          ·
            refine Le_sub C _ _ ⟨rfl, ⟨rfl, ⟨(eqv rfl (vi (by rw [maxF_snoc (by omega)]))), ⟨rfl, ⟨(eqv rfl (vi (by omega))), trivial⟩⟩⟩⟩⟩ trivial rfl rfl
      ·
        refine J_exit ?_
        refine J_seq ?_
        refine J_region ?_
        refine jl rfl rfl (ltn hn rfl) (pure_move rfl rfl) ?_
        refine jl rfl rfl (ltn hn rfl) (pure_assign rfl rfl) ?_
        refine JL_nil ?_
        refine J_ret ?_
        exact Fin_one rfl (Le_one rfl (vi (by rw [if_neg (by rw [h1]; decide), after_good h2 hc])) rfl)
theorem TimeAfter_spec (w row : List Int) (x : Int) (h8 : w.length ≤ 8) (hw : ∀ y ∈ w, 0 ≤ y ∧ y < 256) (hx : 0 ≤ x ∧ x < (w.length : Int)) (hr : ∀ b ∈ setW (closedW w x), 0 ≤ b ∧ b.toNat < row.length) : Spec Tryz.prog 125 [Net w, L row, I x] (I (afterR row (setW (closedW w x)))) [] := by
  refine Spec.intro (c := _) Tryz.func125 rfl (Nat.le_of_ble_eq_true rfl) (fun C hC hfx => ?_)
  have hn : C.n = 32 := hC
  refine (show J _ _ _ _ (⟨[(0, Net w), (1, L row), (2, I x)], []⟩ : AS) from ?_)
  have hcw := closed_msk hw h8 (x := x) hx
  have hsl := setW_len (closedW w x)
  refine J_seq ?_
  refine J_region ?_
  refine jl_o rfl (op_box_agg rfl rfl (ltn hn rfl) rfl rfl rfl) ?_
  refine jl rfl rfl (ltn hn rfl) (pure_assign rfl rfl) ?_
  refine JL_nil ?_
  refine J_seq ?_
  refine J_region ?_
  refine jl rfl rfl (ltn hn rfl) (pure_assign rfl rfl) ?_
  refine JL_nil ?_
  refine J_seq ?_
  refine J_seq ?_
  refine J_region ?_
  refine jl rfl rfl (ltn hn rfl) (p_ld_ba rfl rfl rfl (Nat.le_of_ble_eq_true rfl) rfl) ?_
  refine jl rfl rfl (ltn hn rfl) (pure_move rfl rfl) ?_
  refine jl_o rfl (@op_call _ _ _ _ _ _ [.tmp 10, .tmp 11] _ _ _ _ _ (Closed_spec _ _ (by omega) (by omega)) rfl Tryz.func105 rfl rfl rfl (ltn hn rfl) ⟨rfl, rfl, ⟨rfl, rfl, trivial⟩⟩ rfl rfl) ?_
  refine jl_o rfl (@op_call _ _ _ _ _ _ [.tmp 12] _ _ _ _ _ (SetOf_spec _ (by omega)) rfl Tryz.func55 rfl rfl rfl (ltn hn rfl) ⟨rfl, rfl, trivial⟩ rfl rfl) ?_
  refine jl rfl rfl (ltn hn rfl) (p_len_m rfl rfl) ?_
  refine jl rfl rfl (ltn hn rfl) (pure_move rfl rfl) ?_
  refine JL_nil ?_
  refine J_block ?_
  refine J_loop (X := Nat) (fun i => ⟨[(1, L row), (7, I (maxF row ((setW (closedW w x)).take i))), (13, L (setW (closedW w x))), (14, I ((setW (closedW w x)).length : Int)), (15, I (i : Nat))], []⟩) (fun i => i ≤ (setW (closedW w x)).length ∧ ((setW (closedW w x)).take i).all (fun b => decide (0 ≤ gi row b)) = true) (fun i => (setW (closedW w x)).length - i) 0 ?_ ?_ ?_
  · exact ⟨by omega, by simp⟩
  ·
    refine Le_sub C _ _ ⟨rfl, ⟨rfl, ⟨rfl, ⟨rfl, ⟨rfl, trivial⟩⟩⟩⟩⟩ trivial rfl rfl
  ·
    intro i hR
    obtain ⟨hi, hc⟩ := hR
    refine J_seq ?_
    refine J_region ?_
    refine jl rfl rfl (ltn hn rfl) (pure_lss rfl rfl rfl) ?_
    refine JL_nil ?_
    refine J_seq ?_
    refine J_cond_p rfl (fun h1 => ?_) (fun h1 => ?_)
    ·
      have hbi := hr _ (gi_mem (l := (setW (closedW w x))) (i := i) (by omega))
      refine J_skip ?_
      refine J_seq ?_
      refine J_block ?_
      refine J_seq ?_
      refine J_region ?_
      refine jl rfl rfl (ltn hn rfl) (p_idx rfl rfl rfl (by omega) (mget (by omega))) ?_
      refine jl rfl rfl (ltn hn rfl) (p_ld rfl rfl rfl) ?_
      refine jl rfl rfl (ltn hn rfl) (pure_assign rfl rfl) ?_
      refine JL_nil ?_
      refine J_seq ?_
      refine J_seq ?_
      refine J_region ?_
      refine jl rfl rfl (ltn hn rfl) (pure_move rfl rfl) ?_
      refine jl rfl rfl (ltn hn rfl) (pure_move rfl rfl) ?_
      refine jl rfl rfl (ltn hn rfl) (p_idx rfl rfl rfl (by omega) (mget (by omega))) ?_
      refine jl rfl rfl (ltn hn rfl) (p_ld rfl rfl rfl) ?_
      refine jl rfl rfl (ltn hn rfl) (pure_lss rfl rfl rfl) ?_
      refine JL_nil ?_
      refine J_cond_p rfl (fun h2 => ?_) (fun h2 => ?_)
      ·
        refine J_seq ?_
        refine J_region ?_
        refine jl rfl rfl (ltn hn rfl) (pure_assign rfl rfl) ?_
        refine JL_nil ?_
        refine J_ret ?_
        exact Fin_one rfl (Le_one rfl (vi (by rw [after_bad (i := i) (by omega) (by omega)])) rfl)
      ·
        refine J_skip ?_
        refine J_region ?_
        refine jl rfl rfl (ltn hn rfl) (pure_move rfl rfl) ?_
        refine jl rfl rfl (ltn hn rfl) (pure_move rfl rfl) ?_
        refine jl rfl rfl (ltn hn rfl) (pure_move rfl rfl) ?_
        refine jl rfl rfl (ltn hn rfl) (p_idx rfl rfl rfl (by omega) (mget (by omega))) ?_
        refine jl rfl rfl (ltn hn rfl) (p_ld rfl rfl rfl) ?_
        refine jl rfl rfl (ltn hn rfl) (p_max rfl rfl rfl) ?_
        refine jl rfl rfl (ltn hn rfl) (pure_assign rfl rfl) ?_
        refine JL_nil ?_
        refine J_region ?_
        refine jl rfl rfl (ltn hn rfl) (pure_add rfl rfl rfl (by omega)) ?_
        refine jl rfl rfl (ltn hn rfl) (pure_move rfl rfl) ?_
        refine JL_nil ?_
        refine ⟨i + 1, ?_, ?_, ?_⟩
        · exact ⟨by omega, all_step' h1 hc (by simp; omega)⟩
        · omega
        ·
          refine Le_sub C _ _ ⟨rfl, ⟨(eqv rfl (vi (by rw [maxF_snoc (by omega)]; split <;> split <;> omega))), ⟨rfl, ⟨rfl, ⟨(eqv rfl (vi (by omega))), trivial⟩⟩⟩⟩⟩ trivial rfl rfl
    ·
      refine J_exit ?_
      refine J_seq ?_
      refine J_region ?_
      refine jl rfl rfl (ltn hn rfl) (pure_move rfl rfl) ?_
      refine jl rfl rfl (ltn hn rfl) (pure_assign rfl rfl) ?_
      refine JL_nil ?_
      refine J_ret ?_
      exact Fin_one rfl (Le_one rfl (vi (by rw [after_good h1 hc])) rfl)
theorem RobMove_spec (w row : List Int) (x : Int) (h8 : w.length ≤ 8) (hw : ∀ y ∈ w, 0 ≤ y ∧ y < 256) (hx : 0 ≤ x ∧ x < (w.length : Int)) (hr : ∀ b ∈ setW (closedW w x), 0 ≤ b ∧ b.toNat < row.length) : Spec Tryz.prog 75 [Net w, L row, I x] (I (fleeF row (setW (closedW w x)))) [] := by
  refine Spec.intro (c := _) Tryz.func75 rfl (Nat.le_of_ble_eq_true rfl) (fun C hC hfx => ?_)
  have hn : C.n = 51 := hC
  refine (show J _ _ _ _ (⟨[(0, Net w), (1, L row), (2, I x)], []⟩ : AS) from ?_)
  have hcw := closed_msk hw h8 (x := x) hx
  have hsl := setW_len (closedW w x)
  have hself := self_mem hw h8 hx
  have hpos := List.length_pos_of_mem hself
  have hdl : ((setW (closedW w x)).drop 1).length = (setW (closedW w x)).length - 1 := by simp
  refine J_seq ?_
  refine J_region ?_
  refine jl_o rfl (op_box_agg rfl rfl (ltn hn rfl) rfl rfl rfl) ?_
  refine jl rfl rfl (ltn hn rfl) (pure_assign rfl rfl) ?_
  refine JL_nil ?_
  refine J_seq ?_
  refine J_region ?_
  refine jl rfl rfl (ltn hn rfl) (p_ld_ba rfl rfl rfl (Nat.le_of_ble_eq_true rfl) rfl) ?_
  refine jl rfl rfl (ltn hn rfl) (pure_move rfl rfl) ?_
  refine jl_o rfl (@op_call _ _ _ _ _ _ [.tmp 11, .tmp 12] _ _ _ _ _ (Closed_spec _ _ (by omega) (by omega)) rfl Tryz.func105 rfl rfl rfl (ltn hn rfl) ⟨rfl, rfl, ⟨rfl, rfl, trivial⟩⟩ rfl rfl) ?_
  refine jl_o rfl (@op_call _ _ _ _ _ _ [.tmp 13] _ _ _ _ _ (SetOf_spec _ (by omega)) rfl Tryz.func55 rfl rfl rfl (ltn hn rfl) ⟨rfl, rfl, trivial⟩ rfl rfl) ?_
  refine jl rfl rfl (ltn hn rfl) (pure_assign rfl rfl) ?_
  refine JL_nil ?_
  refine J_seq ?_
  refine J_region ?_
  refine jl rfl rfl (ltn hn rfl) (pure_move rfl rfl) ?_
  refine jl rfl rfl (ltn hn rfl) (p_idx rfl rfl rfl (by omega) (mget (by omega))) ?_
  refine jl rfl rfl (ltn hn rfl) (p_ld rfl rfl rfl) ?_
  refine jl rfl rfl (ltn hn rfl) (pure_assign rfl rfl) ?_
  refine JL_nil ?_
  refine J_seq ?_
  refine J_seq ?_
  refine J_region ?_
  refine jl rfl rfl (ltn hn rfl) (pure_move rfl rfl) ?_
  refine jl rfl rfl (ltn hn rfl) (p_slice_m rfl rfl rfl rfl (by omega) (by omega) (by omega) rfl) ?_
  refine jl rfl rfl (ltn hn rfl) (p_len_m rfl rfl) ?_
  refine jl rfl rfl (ltn hn rfl) (pure_move rfl rfl) ?_
  refine JL_nil ?_
  refine J_block ?_
  refine J_loop (X := Nat) (fun i => ⟨[(1, L row), (8, I ((((setW (closedW w x)).drop 1).take i).foldl (fleeS row) (gi (setW (closedW w x)) 0))), (19, L ((setW (closedW w x)).drop 1)), (20, I (((setW (closedW w x)).drop 1).length : Int)), (21, I (i : Nat))], []⟩) (fun i => i ≤ ((setW (closedW w x)).drop 1).length) (fun i => ((setW (closedW w x)).drop 1).length - i) 0 ?_ ?_ ?_
  · omega
  ·
    refine Le_sub C _ _ ⟨rfl, ⟨rfl, ⟨(eqv rfl (congrArg L (drop1_take _))), ⟨(eqv rfl (congrArg (fun l : List Int => I (l.length : Int)) (drop1_take _))), ⟨rfl, trivial⟩⟩⟩⟩⟩ trivial rfl rfl
  ·
    intro i hi
    refine J_seq ?_
    refine J_region ?_
    refine jl rfl rfl (ltn hn rfl) (pure_lss rfl rfl rfl) ?_
    refine JL_nil ?_
    refine J_seq ?_
    refine J_cond_p rfl (fun h1 => ?_) (fun h1 => ?_)
    ·
      have hbi := hr _ (List.mem_of_mem_drop (gi_mem (l := (setW (closedW w x)).drop 1) (i := i) (by omega)))
      have hbb : 0 ≤ (((setW (closedW w x)).drop 1).take i).foldl (fleeS row) (gi (setW (closedW w x)) 0) ∧ ((((setW (closedW w x)).drop 1).take i).foldl (fleeS row) (gi (setW (closedW w x)) 0)).toNat < row.length := by
        rcases flee_mem (((setW (closedW w x)).drop 1).take i) (gi (setW (closedW w x)) 0) (row := row) with h | h
        · rw [h]; exact hr _ (gi_memI (by omega))
        · exact hr _ (List.mem_of_mem_drop (List.mem_of_mem_take h))
      refine J_skip ?_
      refine J_seq ?_
      refine J_block ?_
      refine J_seq ?_
      refine J_region ?_
      refine jl rfl rfl (ltn hn rfl) (p_idx rfl rfl rfl (by omega) (mget (by omega))) ?_
      refine jl rfl rfl (ltn hn rfl) (p_ld rfl rfl rfl) ?_
      refine jl rfl rfl (ltn hn rfl) (pure_assign rfl rfl) ?_
      refine JL_nil ?_
      refine J_seq ?_
      refine J_draw follows_mixed (by kernel_rfl) ?_
      refine jq rfl rfl (ltn hn rfl) (pure_move rfl rfl) ?_
      refine jq rfl rfl (ltn hn rfl) (pure_move rfl rfl) ?_
      refine jq rfl rfl (ltn hn rfl) (p_idx rfl rfl rfl (by omega) (mget (by omega))) ?_
      refine jq rfl rfl (ltn hn rfl) (p_ld rfl rfl rfl) ?_
      refine jq rfl rfl (ltn hn rfl) (pure_geq rfl rfl rfl) ?_
      refine jq rfl rfl (ltn hn rfl) (pure_move rfl rfl) ?_
      refine jq_split rfl rfl rfl (fun h2 => ?_) (fun h2 => ?_)
      ·
        refine jq rfl rfl (ltn hn rfl) (pure_move rfl rfl) ?_
        refine jq rfl rfl (ltn hn rfl) (pure_move rfl rfl) ?_
        refine jq rfl rfl (ltn hn rfl) (p_idx rfl rfl rfl (by omega) (mget (by omega))) ?_
        refine jq rfl rfl (ltn hn rfl) (p_ld rfl rfl rfl) ?_
        refine jq rfl rfl (ltn hn rfl) (pure_lss rfl rfl rfl) ?_
        refine jq rfl rfl (ltn hn rfl) (pure_move rfl rfl) ?_
        refine jq_split rfl rfl rfl (fun h3 => ?_) (fun h3 => ?_)
        ·
          refine jq_s rfl rfl (ltn hn rfl) ?_
          refine jq_s rfl rfl (ltn hn rfl) ?_
          refine jq_s rfl rfl (ltn hn rfl) ?_
          refine jq_s rfl rfl (ltn hn rfl) ?_
          refine jq_s rfl rfl (ltn hn rfl) ?_
          refine jq_s rfl rfl (ltn hn rfl) ?_
          refine jq_s rfl rfl (ltn hn rfl) ?_
          refine jq_s rfl rfl (ltn hn rfl) ?_
          refine jq_s rfl rfl (ltn hn rfl) ?_
          refine jq rfl rfl (ltn hn rfl) (pure_pick_t rfl rfl rfl) ?_
          refine jq rfl rfl (ltn hn rfl) (pure_pick_t rfl rfl rfl) ?_
          refine JQ_nil ?_
          refine J_cond_t rfl ?_
          refine J_region ?_
          refine jl rfl rfl (ltn hn rfl) (pure_move rfl rfl) ?_
          refine jl rfl rfl (ltn hn rfl) (pure_assign rfl rfl) ?_
          refine JL_nil ?_
          refine J_region ?_
          refine jl rfl rfl (ltn hn rfl) (pure_add rfl rfl rfl (by omega)) ?_
          refine jl rfl rfl (ltn hn rfl) (pure_move rfl rfl) ?_
          refine JL_nil ?_
          refine ⟨i + 1, ?_, ?_, ?_⟩
          · omega
          · omega
          ·
            refine Le_sub C _ _ ⟨rfl, ⟨(eqv rfl (vi (by rw [flee_snoc (by omega), fleeS_if]; split <;> first | rfl | (exfalso; omega)))), ⟨rfl, ⟨rfl, ⟨(eqv rfl (vi (by omega))), trivial⟩⟩⟩⟩⟩ trivial rfl rfl
        ·
          refine jq rfl rfl (ltn hn rfl) (pure_move rfl rfl) ?_
          refine jq rfl rfl (ltn hn rfl) (pure_move rfl rfl) ?_
          refine jq rfl rfl (ltn hn rfl) (p_idx rfl rfl rfl (by omega) (mget (by omega))) ?_
          refine jq rfl rfl (ltn hn rfl) (p_ld rfl rfl rfl) ?_
          refine jq rfl rfl (ltn hn rfl) (pure_move rfl rfl) ?_
          refine jq rfl rfl (ltn hn rfl) (pure_move rfl rfl) ?_
          refine jq rfl rfl (ltn hn rfl) (p_idx rfl rfl rfl (by omega) (mget (by omega))) ?_
          refine jq rfl rfl (ltn hn rfl) (p_ld rfl rfl rfl) ?_
          refine jq rfl rfl (ltn hn rfl) (pure_gtr rfl rfl rfl) ?_
          refine jq rfl rfl (ltn hn rfl) (pure_pick_f rfl rfl rfl) ?_
          refine jq rfl rfl (ltn hn rfl) (pure_pick_t rfl rfl rfl) ?_
          refine JQ_nil ?_
          refine J_cond_p rfl (fun h4 => ?_) (fun h4 => ?_)
          ·
            refine J_region ?_
            refine jl rfl rfl (ltn hn rfl) (pure_move rfl rfl) ?_
            refine jl rfl rfl (ltn hn rfl) (pure_assign rfl rfl) ?_
            refine JL_nil ?_
            refine J_region ?_
            refine jl rfl rfl (ltn hn rfl) (pure_add rfl rfl rfl (by omega)) ?_
            refine jl rfl rfl (ltn hn rfl) (pure_move rfl rfl) ?_
            refine JL_nil ?_
            refine ⟨i + 1, ?_, ?_, ?_⟩
            · omega
            · omega
            ·
              refine Le_sub C _ _ ⟨rfl, ⟨(eqv rfl (vi (by rw [flee_snoc (by omega), fleeS_if]; split <;> first | rfl | (exfalso; omega)))), ⟨rfl, ⟨rfl, ⟨(eqv rfl (vi (by omega))), trivial⟩⟩⟩⟩⟩ trivial rfl rfl
          ·
            refine J_skip ?_
            refine J_region ?_
            refine jl rfl rfl (ltn hn rfl) (pure_add rfl rfl rfl (by omega)) ?_
            refine jl rfl rfl (ltn hn rfl) (pure_move rfl rfl) ?_
            refine JL_nil ?_
            refine ⟨i + 1, ?_, ?_, ?_⟩
            · omega
            · omega
            ·
              refine Le_sub C _ _ ⟨rfl, ⟨(eqv rfl (vi (by rw [flee_snoc (by omega), fleeS_if]; split <;> first | rfl | (exfalso; omega)))), ⟨rfl, ⟨rfl, ⟨(eqv rfl (vi (by omega))), trivial⟩⟩⟩⟩⟩ trivial rfl rfl
      ·
        refine jq_s rfl rfl (ltn hn rfl) ?_
        refine jq_s rfl rfl (ltn hn rfl) ?_
        refine jq_s rfl rfl (ltn hn rfl) ?_
        refine jq_s rfl rfl (ltn hn rfl) ?_
        refine jq_s rfl rfl (ltn hn rfl) ?_
        refine jq_s rfl rfl (ltn hn rfl) ?_
        refine jq_s rfl rfl (ltn hn rfl) ?_
        refine jq_s rfl rfl (ltn hn rfl) ?_
        refine jq_s rfl rfl (ltn hn rfl) ?_
        refine jq_s rfl rfl (ltn hn rfl) ?_
        refine jq_s rfl rfl (ltn hn rfl) ?_
        refine jq_s rfl rfl (ltn hn rfl) ?_
        refine jq_s rfl rfl (ltn hn rfl) ?_
        refine jq_s rfl rfl (ltn hn rfl) ?_
        refine jq_s rfl rfl (ltn hn rfl) ?_
        refine jq_s rfl rfl (ltn hn rfl) ?_
        refine jq rfl rfl (ltn hn rfl) (pure_pick_f rfl rfl rfl) ?_
        refine JQ_nil ?_
        refine J_cond_f rfl ?_
        refine J_skip ?_
        refine J_region ?_
        refine jl rfl rfl (ltn hn rfl) (pure_add rfl rfl rfl (by omega)) ?_
        refine jl rfl rfl (ltn hn rfl) (pure_move rfl rfl) ?_
        refine JL_nil ?_
        refine ⟨i + 1, ?_, ?_, ?_⟩
        · omega
        · omega
        ·
          refine Le_sub C _ _ ⟨rfl, ⟨(eqv rfl (vi (by rw [flee_snoc (by omega), fleeS_if]; split <;> first | rfl | (exfalso; omega)))), ⟨rfl, ⟨rfl, ⟨(eqv rfl (vi (by omega))), trivial⟩⟩⟩⟩⟩ trivial rfl rfl
    ·
      refine J_exit ?_
      refine J_seq ?_
      refine J_region ?_
      refine jl rfl rfl (ltn hn rfl) (pure_move rfl rfl) ?_
      refine jl rfl rfl (ltn hn rfl) (pure_assign rfl rfl) ?_
      refine JL_nil ?_
      refine J_ret ?_
      exact Fin_one rfl (Le_one rfl (vi (by rw [take_all h1]; rfl)) rfl)
theorem Flee_spec (cfg mv balls tbl : List (List Int)) (c x : Int) (hc0 : 0 ≤ c) (hc2 : c.toNat < tbl.length) (hx0 : 0 ≤ x) (hx1 : x.toNat < balls.length) (hbl : (gi balls x).length < 2^40) (hb1 : 1 ≤ (gi balls x).length) (hbb : ∀ b ∈ gi balls x, 0 ≤ b ∧ b.toNat < (gi tbl c).length) : Spec Tryz.prog 70 [.agg [LL cfg, LL mv, LL balls], LL tbl, I c, I x] (I (fleeF (gi tbl c) (gi balls x))) [] := by
  refine Spec.intro (c := _) Tryz.func70 rfl (Nat.le_of_ble_eq_true rfl) (fun C hC hfx => ?_)
  have hn : C.n = 61 := hC
  refine (show J _ _ _ _ (⟨[(0, .agg [LL cfg, LL mv, LL balls]), (1, LL tbl), (2, I c), (3, I x)], []⟩ : AS) from ?_)
  have hdl : ((gi balls x).drop 1).length = (gi balls x).length - 1 := by simp
  refine J_seq ?_
  refine J_region ?_
  refine jl_o rfl (op_box_agg rfl rfl (ltn hn rfl) rfl rfl rfl) ?_
  refine jl rfl rfl (ltn hn rfl) (pure_assign rfl rfl) ?_
  refine JL_nil ?_
  refine J_seq ?_
  refine J_region ?_
  refine jl rfl rfl (ltn hn rfl) (p_fld_b rfl rfl rfl) ?_
  refine jl rfl rfl (ltn hn rfl) (p_ld_b rfl rfl rfl rfl) ?_
  refine jl rfl rfl (ltn hn rfl) (pure_move rfl rfl) ?_
  refine jl rfl rfl (ltn hn rfl) (p_idx rfl rfl rfl (by omega) (mget (by omega))) ?_
  refine jl rfl rfl (ltn hn rfl) (p_ld rfl rfl rfl) ?_
  refine jl rfl rfl (ltn hn rfl) (pure_assign rfl rfl) ?_
  refine JL_nil ?_
  refine J_seq ?_
  refine J_region ?_
  refine jl rfl rfl (ltn hn rfl) (pure_move rfl rfl) ?_
  refine jl rfl rfl (ltn hn rfl) (p_idx rfl rfl rfl (by omega) (mget (by omega))) ?_
  refine jl rfl rfl (ltn hn rfl) (p_ld rfl rfl rfl) ?_
  refine jl rfl rfl (ltn hn rfl) (pure_assign rfl rfl) ?_
  refine JL_nil ?_
  refine J_seq ?_
  refine J_seq ?_
  refine J_region ?_
  refine jl rfl rfl (ltn hn rfl) (pure_assign rfl rfl) ?_
  refine JL_nil ?_
  refine J_block ?_
  refine J_loop (X := Nat) (fun i => ⟨[(1, LL tbl), (2, I c), (9, L (gi balls x)), (10, I ((((gi balls x).drop 1).take i).foldl (fleeS (gi tbl c)) (gi (gi balls x) 0))), (11, I ((i : Int) + 1))], []⟩) (fun i => i ≤ ((gi balls x).drop 1).length) (fun i => ((gi balls x).drop 1).length - i) 0 ?_ ?_ ?_
  · omega
  ·
    refine Le_sub C _ _ ⟨rfl, ⟨rfl, ⟨rfl, ⟨rfl, ⟨rfl, trivial⟩⟩⟩⟩⟩ trivial rfl rfl
  ·
    intro i hi
    refine J_seq ?_
    refine J_seq ?_
    refine J_region ?_
    refine jl rfl rfl (ltn hn rfl) (pure_move rfl rfl) ?_
    refine jl rfl rfl (ltn hn rfl) (pure_move rfl rfl) ?_
    refine jl rfl rfl (ltn hn rfl) (p_len_m rfl rfl) ?_
    refine jl rfl rfl (ltn hn rfl) (pure_lss rfl rfl rfl) ?_
    refine JL_nil ?_
    refine J_cond_p rfl (fun h1 => ?_) (fun h1 => ?_)
    ·
      have hbi := hbb _ (gi_memI (l := (gi balls x)) (x := (i : Int) + 1) (by omega))
      have hb2 : 0 ≤ (((gi balls x).drop 1).take i).foldl (fleeS (gi tbl c)) (gi (gi balls x) 0) ∧ ((((gi balls x).drop 1).take i).foldl (fleeS (gi tbl c)) (gi (gi balls x) 0)).toNat < (gi tbl c).length := by
        rcases flee_mem (((gi balls x).drop 1).take i) (gi (gi balls x) 0) (row := gi tbl c) with h | h
        · rw [h]; exact hbb _ (gi_memI (by omega))
        · exact hbb _ (List.mem_of_mem_drop (List.mem_of_mem_take h))
      refine J_skip ?_
      refine J_seq ?_
      refine J_block ?_
      refine J_seq ?_
      refine J_draw follows_mixed (by kernel_rfl) ?_
      refine jq rfl rfl (ltn hn rfl) (pure_move rfl rfl) ?_
      refine jq rfl rfl (ltn hn rfl) (pure_move rfl rfl) ?_
      refine jq rfl rfl (ltn hn rfl) (p_idx rfl rfl rfl (by omega) (mget (by omega))) ?_
      refine jq rfl rfl (ltn hn rfl) (p_ld rfl rfl rfl) ?_
      refine jq rfl rfl (ltn hn rfl) (pure_move rfl rfl) ?_
      refine jq rfl rfl (ltn hn rfl) (pure_move rfl rfl) ?_
      refine jq rfl rfl (ltn hn rfl) (p_idx rfl rfl rfl (by omega) (mget (by omega))) ?_
      refine jq rfl rfl (ltn hn rfl) (p_ld rfl rfl rfl) ?_
      refine jq rfl rfl (ltn hn rfl) (p_idx rfl rfl rfl (by omega) (mget (by omega))) ?_
      refine jq rfl rfl (ltn hn rfl) (p_ld rfl rfl rfl) ?_
      refine jq rfl rfl (ltn hn rfl) (pure_move rfl rfl) ?_
      refine jq rfl rfl (ltn hn rfl) (pure_move rfl rfl) ?_
      refine jq rfl rfl (ltn hn rfl) (p_idx rfl rfl rfl (by omega) (mget (by omega))) ?_
      refine jq rfl rfl (ltn hn rfl) (p_ld rfl rfl rfl) ?_
      refine jq rfl rfl (ltn hn rfl) (pure_move rfl rfl) ?_
      refine jq rfl rfl (ltn hn rfl) (p_idx rfl rfl rfl (by omega) (mget (by omega))) ?_
      refine jq rfl rfl (ltn hn rfl) (p_ld rfl rfl rfl) ?_
      refine jq rfl rfl (ltn hn rfl) (pure_assign rfl rfl) ?_
      refine jq rfl rfl (ltn hn rfl) (pure_assign rfl rfl) ?_
      refine JQ_nil ?_
      refine J_seq ?_
      refine J_region ?_
      refine jl rfl rfl (ltn hn rfl) (pure_move rfl rfl) ?_
      refine jl rfl rfl (ltn hn rfl) (pure_geq rfl rfl rfl) ?_
      refine jl rfl rfl (ltn hn rfl) (pure_move rfl rfl) ?_
      refine jl_split rfl rfl rfl (fun h2 => ?_) (fun h2 => ?_)
      ·
        refine jl rfl rfl (ltn hn rfl) (pure_move rfl rfl) ?_
        refine jl rfl rfl (ltn hn rfl) (pure_lss rfl rfl rfl) ?_
        refine jl rfl rfl (ltn hn rfl) (pure_move rfl rfl) ?_
        refine jl_split rfl rfl rfl (fun h3 => ?_) (fun h3 => ?_)
        ·
          refine jl_s rfl rfl (ltn hn rfl) ?_
          refine jl_s rfl rfl (ltn hn rfl) ?_
          refine jl_s rfl rfl (ltn hn rfl) ?_
          refine jl rfl rfl (ltn hn rfl) (pure_pick_t rfl rfl rfl) ?_
          refine jl rfl rfl (ltn hn rfl) (pure_pick_t rfl rfl rfl) ?_
          refine JL_nil ?_
          refine J_cond_t rfl ?_
          refine J_region ?_
          refine jl rfl rfl (ltn hn rfl) (pure_move rfl rfl) ?_
          refine jl rfl rfl (ltn hn rfl) (pure_move rfl rfl) ?_
          refine jl rfl rfl (ltn hn rfl) (p_idx rfl rfl rfl (by omega) (mget (by omega))) ?_
          refine jl rfl rfl (ltn hn rfl) (p_ld rfl rfl rfl) ?_
          refine jl rfl rfl (ltn hn rfl) (pure_assign rfl rfl) ?_
          refine JL_nil ?_
          refine J_region ?_
          refine jl rfl rfl (ltn hn rfl) (pure_move rfl rfl) ?_
          refine jl rfl rfl (ltn hn rfl) (pure_add rfl rfl rfl (by omega)) ?_
          refine jl rfl rfl (ltn hn rfl) (pure_assign rfl rfl) ?_
          refine JL_nil ?_
          refine ⟨i + 1, ?_, ?_, ?_⟩
          · omega
          · omega
          ·
            refine Le_sub C _ _ ⟨rfl, ⟨rfl, ⟨rfl, ⟨(eqv rfl (vi (by rw [flee_snoc (by omega), gi_drop (by omega), fleeS_if]; split <;> first | rfl | (exfalso; omega)))), ⟨(eqv rfl (vi (by omega))), trivial⟩⟩⟩⟩⟩ trivial rfl rfl
        ·
          refine jl rfl rfl (ltn hn rfl) (pure_move rfl rfl) ?_
          refine jl rfl rfl (ltn hn rfl) (pure_move rfl rfl) ?_
          refine jl rfl rfl (ltn hn rfl) (pure_gtr rfl rfl rfl) ?_
          refine jl rfl rfl (ltn hn rfl) (pure_pick_f rfl rfl rfl) ?_
          refine jl rfl rfl (ltn hn rfl) (pure_pick_t rfl rfl rfl) ?_
          refine JL_nil ?_
          refine J_cond_p rfl (fun h4 => ?_) (fun h4 => ?_)
          ·
            refine J_region ?_
            refine jl rfl rfl (ltn hn rfl) (pure_move rfl rfl) ?_
            refine jl rfl rfl (ltn hn rfl) (pure_move rfl rfl) ?_
            refine jl rfl rfl (ltn hn rfl) (p_idx rfl rfl rfl (by omega) (mget (by omega))) ?_
            refine jl rfl rfl (ltn hn rfl) (p_ld rfl rfl rfl) ?_
            refine jl rfl rfl (ltn hn rfl) (pure_assign rfl rfl) ?_
            refine JL_nil ?_
            refine J_region ?_
            refine jl rfl rfl (ltn hn rfl) (pure_move rfl rfl) ?_
            refine jl rfl rfl (ltn hn rfl) (pure_add rfl rfl rfl (by omega)) ?_
            refine jl rfl rfl (ltn hn rfl) (pure_assign rfl rfl) ?_
            refine JL_nil ?_
            refine ⟨i + 1, ?_, ?_, ?_⟩
            · omega
            · omega
            ·
              refine Le_sub C _ _ ⟨rfl, ⟨rfl, ⟨rfl, ⟨(eqv rfl (vi (by rw [flee_snoc (by omega), gi_drop (by omega), fleeS_if]; split <;> first | rfl | (exfalso; omega)))), ⟨(eqv rfl (vi (by omega))), trivial⟩⟩⟩⟩⟩ trivial rfl rfl
          ·
            refine J_skip ?_
            refine J_region ?_
            refine jl rfl rfl (ltn hn rfl) (pure_move rfl rfl) ?_
            refine jl rfl rfl (ltn hn rfl) (pure_add rfl rfl rfl (by omega)) ?_
            refine jl rfl rfl (ltn hn rfl) (pure_assign rfl rfl) ?_
            refine JL_nil ?_
            refine ⟨i + 1, ?_, ?_, ?_⟩
            · omega
            · omega
            ·
              refine Le_sub C _ _ ⟨rfl, ⟨rfl, ⟨rfl, ⟨(eqv rfl (vi (by rw [flee_snoc (by omega), gi_drop (by omega), fleeS_if]; split <;> first | rfl | (exfalso; omega)))), ⟨(eqv rfl (vi (by omega))), trivial⟩⟩⟩⟩⟩ trivial rfl rfl
      ·
        refine jl_s rfl rfl (ltn hn rfl) ?_
        refine jl_s rfl rfl (ltn hn rfl) ?_
        refine jl_s rfl rfl (ltn hn rfl) ?_
        refine jl_s rfl rfl (ltn hn rfl) ?_
        refine jl_s rfl rfl (ltn hn rfl) ?_
        refine jl_s rfl rfl (ltn hn rfl) ?_
        refine jl_s rfl rfl (ltn hn rfl) ?_
        refine jl rfl rfl (ltn hn rfl) (pure_pick_f rfl rfl rfl) ?_
        refine JL_nil ?_
        refine J_cond_f rfl ?_
        refine J_skip ?_
        refine J_region ?_
        refine jl rfl rfl (ltn hn rfl) (pure_move rfl rfl) ?_
        refine jl rfl rfl (ltn hn rfl) (pure_add rfl rfl rfl (by omega)) ?_
        refine jl rfl rfl (ltn hn rfl) (pure_assign rfl rfl) ?_
        refine JL_nil ?_
        refine ⟨i + 1, ?_, ?_, ?_⟩
        · omega
        · omega
        ·
          refine Le_sub C _ _ ⟨rfl, ⟨rfl, ⟨rfl, ⟨(eqv rfl (vi (by rw [flee_snoc (by omega), gi_drop (by omega), fleeS_if]; split <;> first | rfl | (exfalso; omega)))), ⟨(eqv rfl (vi (by omega))), trivial⟩⟩⟩⟩⟩ trivial rfl rfl
    ·
      refine J_exit ?_
      refine J_seq ?_
      refine J_region ?_
      refine jl rfl rfl (ltn hn rfl) (pure_move rfl rfl) ?_
      refine jl rfl rfl (ltn hn rfl) (pure_assign rfl rfl) ?_
      refine JL_nil ?_
      refine J_ret ?_
      exact Fin_one rfl (Le_one rfl (vi (by rw [take_all (by omega)]; rfl)) rfl)
theorem HasNodes_spec (n : Int) (es : List (Int × Int)) (l : List Int) (hl : es.length < 2^40) (hll : l.length < 2^40) : Spec Tryz.prog 73 [Gr n es, L l] (B (goodG n es && l.all (inN n))) [] := by
  refine Spec.intro (c := _) Tryz.func73 rfl (Nat.le_of_ble_eq_true rfl) (fun C hC hfx => ?_)
  have hn : C.n = 14 := hC
  refine (show J _ _ _ _ (⟨[(0, Gr n es), (1, L l)], []⟩ : AS) from ?_)
  refine J_seq ?_
  refine J_region ?_
  refine jl_o rfl (op_box_agg rfl rfl (ltn hn rfl) rfl rfl rfl) ?_
  refine jl rfl rfl (ltn hn rfl) (pure_assign rfl rfl) ?_
  refine JL_nil ?_
  refine J_seq ?_
  refine J_region ?_
  refine jl rfl rfl (ltn hn rfl) (p_ld_ba rfl rfl rfl (Nat.le_of_ble_eq_true rfl) rfl) ?_
  refine jl_o rfl (@op_call _ _ _ _ _ _ [.tmp 5] _ _ _ _ _ (IsGraph_spec _ _ (by omega)) rfl Tryz.func93 rfl rfl rfl (ltn hn rfl) ⟨rfl, rfl, trivial⟩ rfl rfl) ?_
  refine jl rfl rfl (ltn hn rfl) (pure_move rfl rfl) ?_
  refine jl_split_b rfl rfl rfl (fun h1 => ?_) (fun h1 => ?_)
  ·
    refine jl rfl rfl (ltn hn rfl) (pure_move rfl rfl) ?_
    refine jl rfl rfl (ltn hn rfl) (p_fld_b rfl rfl rfl) ?_
    refine jl rfl rfl (ltn hn rfl) (p_ld_b rfl rfl rfl rfl) ?_
    refine jl rfl rfl (ltn hn rfl) (pure_sub rfl rfl rfl (by have := good_rng h1; omega)) ?_
    refine jl_o rfl (@op_call _ _ _ _ _ _ [.tmp 8, .const (.int .i64 0), .tmp 11] _ _ _ _ _ (AllIn_spec _ _ _ (by omega)) rfl Tryz.func119 rfl rfl rfl (ltn hn rfl) ⟨rfl, rfl, ⟨rfl, rfl, ⟨rfl, rfl, trivial⟩⟩⟩ rfl rfl) ?_
    refine jl rfl rfl (ltn hn rfl) (pure_pick_t rfl rfl rfl) ?_
    refine jl rfl rfl (ltn hn rfl) (pure_assign rfl rfl) ?_
    refine JL_nil ?_
    refine J_ret ?_
    exact Fin_one rfl (Le_one rfl (vb (by first | (rw [h1]; rfl) | simp_all)) rfl)
  ·
    refine jl_s rfl rfl (ltn hn rfl) ?_
    refine jl_s rfl rfl (ltn hn rfl) ?_
    refine jl_s rfl rfl (ltn hn rfl) ?_
    refine jl_s rfl rfl (ltn hn rfl) ?_
    refine jl_s rfl rfl (ltn hn rfl) ?_
    refine jl rfl rfl (ltn hn rfl) (pure_pick_f rfl rfl rfl) ?_
    refine jl rfl rfl (ltn hn rfl) (pure_assign rfl rfl) ?_
    refine JL_nil ?_
    refine J_ret ?_
    exact Fin_one rfl (Le_one rfl (vb (by first | (rw [h1]; rfl) | simp_all)) rfl)
theorem AreCops_spec (n : Int) (es : List (Int × Int)) (l : List Int) (hl : es.length < 2^40) (hll : l.length < 2^40) : Spec Tryz.prog 72 [Gr n es, L l] (B (fieldG n es l.length && (goodG n es && l.all (inN n)) && sortedB l)) [] := by
  refine Spec.intro (c := _) Tryz.func72 rfl (Nat.le_of_ble_eq_true rfl) (fun C hC hfx => ?_)
  have hn : C.n = 18 := hC
  refine (show J _ _ _ _ (⟨[(0, Gr n es), (1, L l)], []⟩ : AS) from ?_)
  refine J_seq ?_
  refine J_region ?_
  refine jl_o rfl (op_box_agg rfl rfl (ltn hn rfl) rfl rfl rfl) ?_
  refine jl rfl rfl (ltn hn rfl) (pure_assign rfl rfl) ?_
  refine JL_nil ?_
  refine J_seq ?_
  refine J_region ?_
  refine jl rfl rfl (ltn hn rfl) (p_ld_ba rfl rfl rfl (Nat.le_of_ble_eq_true rfl) rfl) ?_
  refine jl rfl rfl (ltn hn rfl) (pure_move rfl rfl) ?_
  refine jl rfl rfl (ltn hn rfl) (p_len_m rfl rfl) ?_
  refine jl_o rfl (@op_call _ _ _ _ _ _ [.tmp 5, .tmp 7] _ _ _ _ _ (IsCop_spec _ _ _ (by omega)) rfl Tryz.func64 rfl rfl rfl (ltn hn rfl) ⟨rfl, rfl, ⟨rfl, rfl, trivial⟩⟩ rfl rfl) ?_
  refine jl rfl rfl (ltn hn rfl) (pure_move rfl rfl) ?_
  refine jl_split_b rfl rfl rfl (fun h1 => ?_) (fun h1 => ?_)
  ·
    refine jl rfl rfl (ltn hn rfl) (p_ld_ba rfl rfl rfl (Nat.le_of_ble_eq_true rfl) rfl) ?_
    refine jl rfl rfl (ltn hn rfl) (pure_move rfl rfl) ?_
    refine jl_o rfl (@op_call _ _ _ _ _ _ [.tmp 10, .tmp 11] _ _ _ _ _ (HasNodes_spec _ _ _ (by omega) (by omega)) rfl Tryz.func73 rfl rfl rfl (ltn hn rfl) ⟨rfl, rfl, ⟨rfl, rfl, trivial⟩⟩ rfl rfl) ?_
    refine jl rfl rfl (ltn hn rfl) (pure_pick_t rfl rfl rfl) ?_
    refine jl rfl rfl (ltn hn rfl) (pure_move rfl rfl) ?_
    refine jl_split_b rfl rfl rfl (fun h2 => ?_) (fun h2 => ?_)
    ·
      refine jl rfl rfl (ltn hn rfl) (pure_move rfl rfl) ?_
      refine jl_o rfl (@op_call _ _ _ _ _ _ [.tmp 15] _ _ _ _ _ (IsSorted_spec _ (by omega)) rfl Tryz.func118 rfl rfl rfl (ltn hn rfl) ⟨rfl, rfl, trivial⟩ rfl rfl) ?_
      refine jl rfl rfl (ltn hn rfl) (pure_pick_t rfl rfl rfl) ?_
      refine jl rfl rfl (ltn hn rfl) (pure_assign rfl rfl) ?_
      refine JL_nil ?_
      refine J_ret ?_
      exact Fin_one rfl (Le_one rfl (vb (by first | (rw [h1, h2]; rfl) | (rw [h1]; rfl) | simp_all)) rfl)
    ·
      refine jl_s rfl rfl (ltn hn rfl) ?_
      refine jl_s rfl rfl (ltn hn rfl) ?_
      refine jl rfl rfl (ltn hn rfl) (pure_pick_f rfl rfl rfl) ?_
      refine jl rfl rfl (ltn hn rfl) (pure_assign rfl rfl) ?_
      refine JL_nil ?_
      refine J_ret ?_
      exact Fin_one rfl (Le_one rfl (vb (by first | (rw [h1, h2]; rfl) | (rw [h1]; rfl) | simp_all)) rfl)
  ·
    refine jl_s rfl rfl (ltn hn rfl) ?_
    refine jl_s rfl rfl (ltn hn rfl) ?_
    refine jl_s rfl rfl (ltn hn rfl) ?_
    refine jl rfl rfl (ltn hn rfl) (pure_pick_f rfl rfl rfl) ?_
    refine jl rfl rfl (ltn hn rfl) (pure_move rfl rfl) ?_
    refine jl_s rfl rfl (ltn hn rfl) ?_
    refine jl_s rfl rfl (ltn hn rfl) ?_
    refine jl rfl rfl (ltn hn rfl) (pure_pick_f rfl rfl rfl) ?_
    refine jl rfl rfl (ltn hn rfl) (pure_assign rfl rfl) ?_
    refine JL_nil ?_
    refine J_ret ?_
    exact Fin_one rfl (Le_one rfl (vb (by first | (rw [h1, h2]; rfl) | (rw [h1]; rfl) | simp_all)) rfl)
theorem Meets_spec (n : Int) (es : List (Int × Int)) (cs : List Int) (x : Int) (hl : es.length < 2^40) (hll : cs.length < 2^40) : Spec Tryz.prog 69 [Gr n es, L cs, I x] (B (meetsG n es cs x)) [] := by
  refine Spec.intro (c := _) Tryz.func69 rfl (Nat.le_of_ble_eq_true rfl) (fun C hC hfx => ?_)
  have hn : C.n = 27 := hC
  refine (show J _ _ _ _ (⟨[(0, Gr n es), (1, L cs), (2, I x)], []⟩ : AS) from ?_)
  refine J_seq ?_
  refine J_region ?_
  refine jl_o rfl (op_box_agg rfl rfl (ltn hn rfl) rfl rfl rfl) ?_
  refine jl rfl rfl (ltn hn rfl) (pure_assign rfl rfl) ?_
  refine JL_nil ?_
  refine J_seq ?_
  refine J_region ?_
  refine jl rfl rfl (ltn hn rfl) (p_ld_ba rfl rfl rfl (Nat.le_of_ble_eq_true rfl) rfl) ?_
  refine jl rfl rfl (ltn hn rfl) (pure_move rfl rfl) ?_
  refine jl rfl rfl (ltn hn rfl) (p_len_m rfl rfl) ?_
  refine jl_o rfl (@op_call _ _ _ _ _ _ [.tmp 7, .tmp 9] _ _ _ _ _ (Field_spec _ _ _ (by omega)) rfl Tryz.func62 rfl rfl rfl (ltn hn rfl) ⟨rfl, rfl, ⟨rfl, rfl, trivial⟩⟩ rfl rfl) ?_
  refine jl rfl rfl (ltn hn rfl) (pure_move rfl rfl) ?_
  refine jl_split_b rfl rfl rfl (fun h1 => ?_) (fun h1 => ?_)
  ·
    refine jl rfl rfl (ltn hn rfl) (p_ld_ba rfl rfl rfl (Nat.le_of_ble_eq_true rfl) rfl) ?_
    refine jl rfl rfl (ltn hn rfl) (pure_move rfl rfl) ?_
    refine jl_o rfl (@op_call _ _ _ _ _ _ [.tmp 12, .tmp 13] _ _ _ _ _ (CopsS_spec _ _ _ (by have := field_bd h1; omega) (by omega)) rfl Tryz.func81 rfl rfl rfl (ltn hn rfl) ⟨rfl, rfl, ⟨rfl, rfl, trivial⟩⟩ rfl rfl) ?_
    refine jl rfl rfl (ltn hn rfl) (pure_pick_t rfl rfl rfl) ?_
    refine jl rfl rfl (ltn hn rfl) (pure_move rfl rfl) ?_
    refine jl_split_b rfl rfl rfl (fun h2 => ?_) (fun h2 => ?_)
    ·
      refine jl rfl rfl (ltn hn rfl) (p_ld_ba rfl rfl rfl (Nat.le_of_ble_eq_true rfl) rfl) ?_
      refine jl rfl rfl (ltn hn rfl) (pure_move rfl rfl) ?_
      refine jl_o rfl (@op_call _ _ _ _ _ _ [.tmp 17, .tmp 18] _ _ _ _ _ (Node_spec _ _ _ (by have := field_bd h1; omega)) rfl Tryz.func116 rfl rfl rfl (ltn hn rfl) ⟨rfl, rfl, ⟨rfl, rfl, trivial⟩⟩ rfl rfl) ?_
      refine jl rfl rfl (ltn hn rfl) (pure_pick_t rfl rfl rfl) ?_
      refine jl rfl rfl (ltn hn rfl) (pure_move rfl rfl) ?_
      refine jl_split_b rfl rfl rfl (fun h3 => ?_) (fun h3 => ?_)
      ·
        refine jl rfl rfl (ltn hn rfl) (pure_move rfl rfl) ?_
        refine jl rfl rfl (ltn hn rfl) (pure_move rfl rfl) ?_
        refine jl_o rfl (@op_call _ _ _ _ _ _ [.tmp 22, .tmp 23] _ _ _ _ _ (Has_spec _ _ (by omega)) rfl Tryz.func60 rfl rfl rfl (ltn hn rfl) ⟨rfl, rfl, ⟨rfl, rfl, trivial⟩⟩ rfl rfl) ?_
        refine jl rfl rfl (ltn hn rfl) (pure_not_b rfl rfl) ?_
        refine jl rfl rfl (ltn hn rfl) (pure_pick_t rfl rfl rfl) ?_
        refine jl rfl rfl (ltn hn rfl) (pure_assign rfl rfl) ?_
        refine JL_nil ?_
        refine J_ret ?_
        exact Fin_one rfl (Le_one rfl (vb (by simp_all [meetsG])) rfl)
      ·
        refine jl_s rfl rfl (ltn hn rfl) ?_
        refine jl_s rfl rfl (ltn hn rfl) ?_
        refine jl_s rfl rfl (ltn hn rfl) ?_
        refine jl_s rfl rfl (ltn hn rfl) ?_
        refine jl rfl rfl (ltn hn rfl) (pure_pick_f rfl rfl rfl) ?_
        refine jl rfl rfl (ltn hn rfl) (pure_assign rfl rfl) ?_
        refine JL_nil ?_
        refine J_ret ?_
        exact Fin_one rfl (Le_one rfl (vb (by simp_all [meetsG])) rfl)
    ·
      refine jl_s rfl rfl (ltn hn rfl) ?_
      refine jl_s rfl rfl (ltn hn rfl) ?_
      refine jl_s rfl rfl (ltn hn rfl) ?_
      refine jl rfl rfl (ltn hn rfl) (pure_pick_f rfl rfl rfl) ?_
      refine jl rfl rfl (ltn hn rfl) (pure_move rfl rfl) ?_
      refine jl_s rfl rfl (ltn hn rfl) ?_
      refine jl_s rfl rfl (ltn hn rfl) ?_
      refine jl_s rfl rfl (ltn hn rfl) ?_
      refine jl_s rfl rfl (ltn hn rfl) ?_
      refine jl rfl rfl (ltn hn rfl) (pure_pick_f rfl rfl rfl) ?_
      refine jl rfl rfl (ltn hn rfl) (pure_assign rfl rfl) ?_
      refine JL_nil ?_
      refine J_ret ?_
      exact Fin_one rfl (Le_one rfl (vb (by simp_all [meetsG])) rfl)
  ·
    refine jl_s rfl rfl (ltn hn rfl) ?_
    refine jl_s rfl rfl (ltn hn rfl) ?_
    refine jl_s rfl rfl (ltn hn rfl) ?_
    refine jl rfl rfl (ltn hn rfl) (pure_pick_f rfl rfl rfl) ?_
    refine jl rfl rfl (ltn hn rfl) (pure_move rfl rfl) ?_
    refine jl_s rfl rfl (ltn hn rfl) ?_
    refine jl_s rfl rfl (ltn hn rfl) ?_
    refine jl_s rfl rfl (ltn hn rfl) ?_
    refine jl rfl rfl (ltn hn rfl) (pure_pick_f rfl rfl rfl) ?_
    refine jl rfl rfl (ltn hn rfl) (pure_move rfl rfl) ?_
    refine jl_s rfl rfl (ltn hn rfl) ?_
    refine jl_s rfl rfl (ltn hn rfl) ?_
    refine jl_s rfl rfl (ltn hn rfl) ?_
    refine jl_s rfl rfl (ltn hn rfl) ?_
    refine jl rfl rfl (ltn hn rfl) (pure_pick_f rfl rfl rfl) ?_
    refine jl rfl rfl (ltn hn rfl) (pure_assign rfl rfl) ?_
    refine JL_nil ?_
    refine J_ret ?_
    exact Fin_one rfl (Le_one rfl (vb (by simp_all [meetsG])) rfl)
end Go.Proofs.YtmiijpobhajfmaaGreat.J
namespace Go.Proofs.YtmiijpobhajfmaaGreat.J
open Go Go.RowKit
set_option maxRecDepth 20000
set_option linter.unusedVariables false
set_option linter.unusedSimpArgs false

/-- A move that catches the robber, or leaves it only situations with times. -/
def canB (w : List Int) (ls tm : List (List Int)) (x y : Int) : Bool := (gi ls y).contains x || decide (0 ≤ afterR (gi tm y) (setW (closedW w x)))

theorem Can1_spec (w : List Int) (ls mv tm : List (List Int)) (x y : Int) (h8 : w.length ≤ 8) (hw : ∀ y ∈ w, 0 ≤ y ∧ y < 256) (hx : 0 ≤ x ∧ x < (w.length : Int)) (hy : 0 ≤ y) (hyl : y.toNat < ls.length) (hyt : y.toNat < tm.length) (hll : (gi ls y).length < 2^40) (hr : ∀ b ∈ setW (closedW w x), 0 ≤ b ∧ b.toNat < (gi tm y).length) : Spec Tryz.prog 137 [I y, .ref [.ref [L w, LL ls, LL mv, LL tm]], .ref [I x]] (B (canB w ls tm x y)) [] := by
  refine Spec.intro (c := _) Tryz.func137 rfl (Nat.le_of_ble_eq_true rfl) (fun C hC hfx => ?_)
  have hn : C.n = 30 := hC
  refine (show J _ _ _ _ (⟨[(0, I y), (1, .ref [.ref [L w, LL ls, LL mv, LL tm]]), (2, .ref [I x])], []⟩ : AS) from ?_)
  refine J_seq ?_
  refine J_region ?_
  refine jl rfl rfl (ltn hn rfl) (pure_assign rfl rfl) ?_
  refine JL_nil ?_
  refine J_seq ?_
  refine J_draw follows_mixed (by kernel_rfl) ?_
  refine jq rfl rfl (ltn hn rfl) (p_ld rfl rfl rfl) ?_
  refine jq rfl rfl (ltn hn rfl) (pure_nilCheck_ref rfl rfl) ?_
  refine jq rfl rfl (ltn hn rfl) (p_fld rfl rfl) ?_
  refine jq rfl rfl (ltn hn rfl) (p_ld rfl rfl rfl) ?_
  refine jq rfl rfl (ltn hn rfl) (pure_move rfl rfl) ?_
  refine jq rfl rfl (ltn hn rfl) (p_idx rfl rfl rfl (by omega) (mget (by omega))) ?_
  refine jq rfl rfl (ltn hn rfl) (p_ld rfl rfl rfl) ?_
  refine jq rfl rfl (ltn hn rfl) (p_ld rfl rfl rfl) ?_
  refine JQ_call (args := [.tmp 11, .tmp 12]) rfl (Contains_spec _ _ (by omega)) rfl Tryz.func74 rfl rfl rfl (ltn hn rfl) ⟨rfl, rfl, ⟨rfl, rfl, trivial⟩⟩ ?_
  refine jq rfl rfl (ltn hn rfl) (pure_move rfl rfl) ?_
  refine jq_split_b rfl rfl rfl (fun h1 => ?_) (fun h1 => ?_)
  ·
    refine jq_s rfl rfl (ltn hn rfl) ?_
    refine jq_s rfl rfl (ltn hn rfl) ?_
    refine jq_s rfl rfl (ltn hn rfl) ?_
    refine jq_s rfl rfl (ltn hn rfl) ?_
    refine jq_s rfl rfl (ltn hn rfl) ?_
    refine jq_s rfl rfl (ltn hn rfl) ?_
    refine jq_s rfl rfl (ltn hn rfl) ?_
    refine jq_s rfl rfl (ltn hn rfl) ?_
    refine jq_s rfl rfl (ltn hn rfl) ?_
    refine jq_s rfl rfl (ltn hn rfl) ?_
    refine jq_s rfl rfl (ltn hn rfl) ?_
    refine jq_s rfl rfl (ltn hn rfl) ?_
    refine jq_s rfl rfl (ltn hn rfl) ?_
    refine jq_s rfl rfl (ltn hn rfl) ?_
    refine jq rfl rfl (ltn hn rfl) (pure_pick_t rfl rfl rfl) ?_
    refine jq rfl rfl (ltn hn rfl) (pure_assign rfl rfl) ?_
    refine JQ_nil ?_
    refine J_ret ?_
    exact Fin_one rfl (Le_one rfl (vb (by unfold canB; first | (rw [h1]; rfl) | simp_all)) rfl)
  ·
    refine jq rfl rfl (ltn hn rfl) (p_ld rfl rfl rfl) ?_
    refine jq rfl rfl (ltn hn rfl) (pure_nilCheck_ref rfl rfl) ?_
    refine jq rfl rfl (ltn hn rfl) (p_fld rfl rfl) ?_
    refine jq rfl rfl (ltn hn rfl) (p_ld_a rfl rfl (Nat.le_of_ble_eq_true rfl) rfl) ?_
    refine jq rfl rfl (ltn hn rfl) (p_ld rfl rfl rfl) ?_
    refine jq rfl rfl (ltn hn rfl) (pure_nilCheck_ref rfl rfl) ?_
    refine jq rfl rfl (ltn hn rfl) (p_fld rfl rfl) ?_
    refine jq rfl rfl (ltn hn rfl) (p_ld rfl rfl rfl) ?_
    refine jq rfl rfl (ltn hn rfl) (pure_move rfl rfl) ?_
    refine jq rfl rfl (ltn hn rfl) (p_idx rfl rfl rfl (by omega) (mget (by omega))) ?_
    refine jq rfl rfl (ltn hn rfl) (p_ld rfl rfl rfl) ?_
    refine jq rfl rfl (ltn hn rfl) (p_ld rfl rfl rfl) ?_
    refine JQ_call (args := [.tmp 18, .tmp 25, .tmp 26]) rfl (TimeAfter_spec _ _ _ (by omega) (by assumption) (by assumption) (by assumption)) rfl Tryz.func125 rfl rfl rfl (ltn hn rfl) ⟨rfl, rfl, ⟨rfl, rfl, ⟨rfl, rfl, trivial⟩⟩⟩ ?_
    refine jq rfl rfl (ltn hn rfl) (pure_geq rfl rfl rfl) ?_
    refine jq rfl rfl (ltn hn rfl) (pure_pick_f rfl rfl rfl) ?_
    refine jq rfl rfl (ltn hn rfl) (pure_assign rfl rfl) ?_
    refine JQ_nil ?_
    refine J_ret ?_
    exact Fin_one rfl (Le_one rfl (vb (by unfold canB; first | (rw [h1]; rfl) | simp_all)) rfl)
theorem Can_spec (w : List Int) (ls mv tm : List (List Int)) (c x : Int) (h8 : w.length ≤ 8) (hw : ∀ y ∈ w, 0 ≤ y ∧ y < 256) (hx : 0 ≤ x ∧ x < (w.length : Int)) (hc : 0 ≤ c) (hcm : c.toNat < mv.length) (hml : (gi mv c).length < 2^40) (hy : ∀ y ∈ gi mv c, 0 ≤ y ∧ y.toNat < ls.length ∧ y.toNat < tm.length) (hll : ∀ l ∈ ls, l.length < 2^40) (hr : ∀ r ∈ tm, ∀ b ∈ setW (closedW w x), 0 ≤ b ∧ b.toNat < r.length) : Spec Tryz.prog 115 [.ref [L w, LL ls, LL mv, LL tm], I c, I x] (B ((gi mv c).any (canB w ls tm x))) [] := by
  refine Spec.intro (c := _) Tryz.func115 rfl (Nat.le_of_ble_eq_true rfl) (fun C hC hfx => ?_)
  have hn : C.n = 16 := hC
  refine (show J _ _ _ _ (⟨[(0, .ref [L w, LL ls, LL mv, LL tm]), (1, I c), (2, I x)], []⟩ : AS) from ?_)
  refine J_seq ?_
  refine J_region ?_
  refine jl_o rfl (op_box_one rfl rfl (ltn hn rfl) rfl rfl rfl) ?_
  refine jl_o rfl (op_box_one rfl rfl (ltn hn rfl) rfl rfl rfl) ?_
  refine jl rfl rfl (ltn hn rfl) (pure_assign rfl rfl) ?_
  refine JL_nil ?_
  refine J_seq ?_
  refine J_le (Le_freezeB C _ 3 rfl rfl) ?_
  refine J_le (Le_freezeB C _ 5 rfl rfl) ?_
  refine J_region ?_
  refine jl rfl rfl (ltn hn rfl) (p_ld rfl rfl rfl) ?_
  refine jl rfl rfl (ltn hn rfl) (pure_nilCheck_ref rfl rfl) ?_
  refine jl rfl rfl (ltn hn rfl) (p_fld rfl rfl) ?_
  refine jl rfl rfl (ltn hn rfl) (p_ld rfl rfl rfl) ?_
  refine jl rfl rfl (ltn hn rfl) (pure_move rfl rfl) ?_
  refine jl rfl rfl (ltn hn rfl) (p_idx rfl rfl rfl (by omega) (mget (by omega))) ?_
  refine jl rfl rfl (ltn hn rfl) (p_ld rfl rfl rfl) ?_
  refine jl rfl rfl (ltn hn rfl) (p_clo (fs := []) (cs := [.tmp 3, .tmp 5]) rfl (evA_c rfl (evA_c rfl evA_n))) ?_
  refine jl_o rfl (@op_call _ _ _ _ _ _ [.tmp 13, .tmp 14] _ _ _ _ _ (ContainsFuncI_spec (gi mv c) (canB w ls tm x) 137 0 [.ref [.ref [L w, LL ls, LL mv, LL tm]], .ref [I x]] Tryz.f137 (Nat.zero_le _) Tryz.func137 rfl rfl rfl rfl hml (fun y hh => Can1_spec w ls mv tm x y h8 hw hx (hy y hh).1 (hy y hh).2.1 (hy y hh).2.2 (hll _ (gi_memI (hy y hh).2.1)) (hr _ (gi_memI (hy y hh).2.2)))) rfl Tryz.func136 rfl rfl rfl (ltn hn rfl) ⟨rfl, rfl, ⟨rfl, rfl, trivial⟩⟩ rfl rfl) ?_
  refine jl rfl rfl (ltn hn rfl) (pure_assign rfl rfl) ?_
  refine JL_nil ?_
  refine J_ret ?_
  exact Fin_one rfl (Le_one rfl (vb (by rfl)) rfl)
theorem Repeat_spec (v : Int) (n : Nat) (h1 : 1 ≤ n) (h8 : n ≤ 8) : Spec Tryz.prog 113 [L [v], I (n : Int)] (.own 30 []) [(30, Ow 3 1 cI (List.replicate n v))] := by
  refine Spec.intro (c := _) Tryz.func113 rfl (Nat.le_of_ble_eq_true rfl) (fun C hC hfx => ?_)
  have hn : C.n = 48 := hC
  refine (show J _ _ _ _ (⟨[(0, L [v]), (1, I (n : Int))], []⟩ : AS) from ?_)
  refine J_seq ?_
  refine J_region ?_
  refine jl rfl rfl (ltn hn rfl) (pure_assign rfl rfl) ?_
  refine JL_nil ?_
  refine J_seq ?_
  refine J_seq ?_
  refine J_region ?_
  refine jl rfl rfl (ltn hn rfl) (pure_move rfl rfl) ?_
  refine jl rfl rfl (ltn hn rfl) (pure_lss rfl rfl rfl) ?_
  refine JL_nil ?_
  refine J_cond_p rfl (fun h1 => ?_) (fun h1 => ?_)
  ·
    omega
  ·
    refine J_skip ?_
    refine J_seq ?_
    refine J_region ?_
    refine jl rfl rfl (ltn hn rfl) (pure_move rfl rfl) ?_
    refine jl rfl rfl (ltn hn rfl) (p_len_m rfl rfl) ?_
    refine jl rfl rfl (ltn hn rfl) (p_conv_to 1 rfl rfl rfl) ?_
    refine jl rfl rfl (ltn hn rfl) (pure_move rfl rfl) ?_
    refine jl rfl rfl (ltn hn rfl) (p_conv_to (n : Int) rfl rfl (wrap_u64 (by omega))) ?_
    refine jl_o rfl (@op_call _ _ _ _ _ _ [.tmp 15, .tmp 17] _ _ _ _ _ (Mul_spec _ (by omega)) rfl Tryz.func135 rfl rfl rfl (ltn hn rfl) ⟨rfl, rfl, ⟨rfl, rfl, trivial⟩⟩ rfl rfl) ?_
    refine jl rfl rfl (ltn hn rfl) (pure_move rfl rfl) ?_
    refine jl rfl rfl (ltn hn rfl) (p_extract rfl rfl rfl) ?_
    refine jl rfl rfl (ltn hn rfl) (p_extract rfl rfl rfl) ?_
    refine jl rfl rfl (ltn hn rfl) (pure_assign rfl rfl) ?_
    refine jl rfl rfl (ltn hn rfl) (pure_assign rfl rfl) ?_
    refine JL_nil ?_
    refine J_seq ?_
    refine J_seq ?_
    refine J_region ?_
    refine jl rfl rfl (ltn hn rfl) (pure_move rfl rfl) ?_
    refine jl rfl rfl (ltn hn rfl) (pure_gtr rfl rfl rfl) ?_
    refine jl rfl rfl (ltn hn rfl) (pure_move rfl rfl) ?_
    refine jl_split rfl rfl rfl (fun h2 => ?_) (fun h2 => ?_)
    ·
      omega
    ·
      refine jl rfl rfl (ltn hn rfl) (pure_move rfl rfl) ?_
      refine jl rfl rfl (ltn hn rfl) (pure_gtr rfl rfl rfl) ?_
      refine jl rfl rfl (ltn hn rfl) (pure_pick_f rfl rfl rfl) ?_
      refine JL_nil ?_
      refine J_cond_p rfl (fun h3 => ?_) (fun h3 => ?_)
      ·
        omega
      ·
        refine J_skip ?_
        refine J_seq ?_
        refine J_region ?_
        refine jl rfl rfl (ltn hn rfl) (pure_move rfl rfl) ?_
        refine jl rfl rfl (ltn hn rfl) (p_conv_to (n : Int) rfl rfl (wrap_id (by omega))) ?_
        refine jl_o rfl (@op_make_m _ _ _ _ _ cI 0 _ _ _ _ _ _ _ _ _ SlT.slk ZrT.out rfl rfl rfl (ltn hn rfl) rfl rfl rfl (by omega) (by omega) (by omega)) ?_
        refine jl rfl rfl (ltn hn rfl) (pure_assign rfl rfl) ?_
        refine JL_nil ?_
        refine J_seq ?_
        refine J_region ?_
        refine jl rfl rfl (ltn hn rfl) (pure_move rfl rfl) ?_
        refine jl rfl rfl (ltn hn rfl) (pure_move rfl rfl) ?_
        refine jl_o rfl (op_copy_m (m := 1) rfl rfl (ltn hn rfl) SlT.und rfl (.own _ _ rfl) rfl (src_sl_m rfl) (by exact rfl) (by simp; omega) (by omega)) ?_
        refine jl rfl rfl (ltn hn rfl) (pure_assign rfl rfl) ?_
        refine JL_nil ?_
        refine J_seq ?_
        refine J_block ?_
        refine J_loop (X := Nat) (fun m => ⟨[(7, .own 30 []), (8, I (m : Nat))], [(30, Ow 3 1 cI (List.replicate m v ++ List.replicate (n - m) 0))]⟩) (fun m => 1 ≤ m ∧ m ≤ n) (fun m => n - m) 1 ?_ ?_ ?_
        · omega
        ·
          refine Le_sub C _ _ ⟨rfl, ⟨rfl, trivial⟩⟩ ⟨(eqv rfl (by rw [Int.toNat_natCast]; simp)), trivial⟩ rfl rfl
        ·
          intro m hR
          obtain ⟨hm1, hm2⟩ := hR
          refine J_seq ?_
          refine J_seq ?_
          refine J_region ?_
          refine jl rfl rfl (ltn hn rfl) (pure_move rfl rfl) ?_
          refine jl rfl rfl (ltn hn rfl) (pure_move rfl rfl) ?_
          refine jl rfl rfl (ltn hn rfl) (p_len_om rfl rfl rfl) ?_
          refine jl rfl rfl (ltn hn rfl) (pure_lss rfl rfl rfl) ?_
          refine JL_nil ?_
          refine J_cond_p rfl (fun h4 => ?_) (fun h4 => ?_)
          ·
            have hrl : (List.replicate m v ++ List.replicate (n - m) (0 : Int)).length = n := by simp; omega
            refine J_skip ?_
            refine J_block ?_
            refine J_mixed [30] follows_mixed (by kernel_rfl) ?_
            refine JD1_read 0 rfl (by kernel_rfl) (by kernel_rfl) (by kernel_rfl) rfl rfl (ltn hn rfl) (pure_move rfl rfl) rfl ?_
            refine JD1_read 1 rfl (by kernel_rfl) (by kernel_rfl) (by kernel_rfl) rfl rfl (ltn hn rfl) (pure_move rfl rfl) rfl ?_
            refine JD1_read 2 rfl (by kernel_rfl) (by kernel_rfl) (by kernel_rfl) rfl rfl (ltn hn rfl) (pure_move rfl rfl) rfl ?_
            refine JD1_read 3 rfl (by kernel_rfl) (by kernel_rfl) (by kernel_rfl) rfl rfl (ltn hn rfl) (p_part rfl SlT.und (SlT.siz 37) rfl rfl rfl rfl rfl (by first | omega | (simp only [Tr.len, List.length_map]; omega)) (by first | omega | (simp only [Tr.len, List.length_map]; omega)) (by first | omega | (simp only [Tr.len, List.length_map]; omega))) rfl ?_
            refine JD1_read 4 rfl (by kernel_rfl) (by kernel_rfl) (by kernel_rfl) rfl rfl (ltn hn rfl) (pure_move rfl rfl) rfl ?_
            refine JD1_read 5 rfl (by kernel_rfl) (by kernel_rfl) (by kernel_rfl) rfl rfl (ltn hn rfl) (pure_move rfl rfl) rfl ?_
            refine JD1_read 6 rfl (by kernel_rfl) (by kernel_rfl) (by kernel_rfl) rfl rfl (ltn hn rfl) (p_part rfl SlT.und (SlT.siz 37) rfl rfl rfl rfl rfl (by first | omega | (simp only [Tr.len, List.length_map]; omega)) (by first | omega | (simp only [Tr.len, List.length_map]; omega)) (by first | omega | (simp only [Tr.len, List.length_map]; omega))) rfl ?_
            refine JD1_go ?_
            refine JD_only 7 rfl (by kernel_rfl) rfl (op_copy_m (m := min m (n - m)) rfl rfl (ltn hn rfl) SlT.und rfl (.part _ _ _ rfl) rfl (src_part_m rfl rfl (by omega) (fun _ => rfl)) (by simp [Tr.len]; omega) (by simp [Tr.len]; omega) (by omega)) rfl ?_
            refine JD_still 8 rfl (by kernel_rfl) (by kernel_rfl) (by kernel_rfl) rfl rfl (ltn hn rfl) (pure_add rfl rfl rfl (by omega)) ?_
            refine JD_still 9 rfl (by kernel_rfl) (by kernel_rfl) (by kernel_rfl) rfl rfl (ltn hn rfl) (pure_assign rfl rfl) ?_
            refine JD_done (by kernel_rfl) ?_
            refine ⟨m + min m (n - m), ?_, ?_, ?_⟩
            · omega
            · omega
            ·
              refine Le_sub C _ _ ⟨rfl, ⟨(eqv rfl (vi (by omega))), trivial⟩⟩ ⟨(eqv rfl (by simp only [Int.toNat_natCast]; exact congrArg (fun l : List Int => Ow 3 1 cI l) (rep_grow hm1 hm2))), trivial⟩ rfl rfl
          ·
            have hrl : (List.replicate m v ++ List.replicate (n - m) (0 : Int)).length = n := by simp; omega
            refine J_exit ?_
            refine J_seq ?_
            refine J_region ?_
            refine jl rfl rfl (ltn hn rfl) (pure_move rfl rfl) ?_
            refine jl rfl rfl (ltn hn rfl) (pure_assign rfl rfl) ?_
            refine JL_nil ?_
            refine J_ret ?_
            exact Fin_one rfl (Le_sub C _ _ ⟨rfl, trivial⟩ ⟨(eqv rfl (by have e : m = n := (by omega); subst e; simp)), trivial⟩ rfl rfl)
end Go.Proofs.YtmiijpobhajfmaaGreat.J
