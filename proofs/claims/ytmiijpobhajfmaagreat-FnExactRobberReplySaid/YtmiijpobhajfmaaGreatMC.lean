/- Parts of a small logic over the program, and walks in it. No statement of the seat is proved in this text. -/
import Derived.Test.YtmiijpobhajfmaaGreatMB
import Derived.WideKeyRuns
import Derived.Lib.SliceRun
import Derived.Laws.CopyRow
namespace Go.Proofs.YtmiijpobhajfmaaGreat.J
open Go Go.RowKit
set_option linter.unusedVariables false
set_option linter.unusedSimpArgs false

/-! ### 40. Contracts of functions to which objects are lent -/
def inO (ψ : Nat → List Nat) (O : List (Nat × Obj)) (k : Nat) : Prop := ∃ i o, lk i O = some o ∧ k ∈ ψ i
def fixO (φ : Nat → Value) (O : List (Nat × Obj)) (i : Nat) : Option Value := if 1000000 ≤ i then (match lk i O with | some _ => some (φ i) | none => none) else none
def mkM (w : World) (n : Nat) (ok : Nat → Prop) (hok : ∀ k, ok k → k < w.heap.size) (ψ : Nat → List Nat) (φ : Nat → Value) (O : List (Nat × Obj)) : Ctx :=
  ⟨w, min n 1000000, ok, inO ψ O, fixO φ O, hok, (fun i v h => by unfold fixO at h; split at h <;> first | assumption | cases h), Nat.min_le_right _ _⟩
/-- Called with these values and with the objects O, the function returns this value; what is there behind it is O'. -/
def SpecM (P : Program) (f : FuncId) (O : List (Nat × Obj)) (ins : List AV) (ra : AV) (O' : List (Nat × Obj)) : Prop :=
  ∀ (w : World) (n : Nat) (ok : Nat → Prop) (hok : ∀ k, ok k → k < w.heap.size) (ψ0 : Nat → List Nat) (φ0 : Nat → Value) (vs : Array Value), vs.size = ins.length → Hp (mkM w n ok hok ψ0 φ0 O) ψ0 φ0 O w →
    (∀ (j : Nat) a u, ins[j]? = some a → vs[j]? = some u → Rep w (okS (mkM w n ok hok ψ0 φ0 O) ψ0 O w) (idsS O) ψ0 φ0 a u) →
    Calls P f vs w fun e w' => ∃ v ψ φ, e = .returned v ∧ Hp (mkM w n ok hok ψ0 φ0 O) ψ φ O' w' ∧ Rep w' (okS (mkM w n ok hok ψ0 φ0 O) ψ O' w') (idsS O') ψ φ ra v
section
variable {P : Program} {C : Ctx} {s : AS} {o : Oper}
theorem SpecM.intro {f : FuncId} {fn : Func} {c : Code} {ins : List AV} {ra : AV} {O O' : List (Nat × Obj)} (hf : P.funcs[f]? = some fn) (hb : fn.body = some c) (hn : ins.length ≤ fn.ntmps)
    (h : ∀ C : Ctx, C.n = fn.ntmps → (∀ i, lk i O = none → C.fix i = none) → J P C ⟨Fin P C fn ra O', Fin P C fn ra O', fun _ _ => False⟩ c ⟨enumE 0 ins, O⟩) (h6 : fn.ntmps ≤ 1000000 := by exact Nat.le_of_ble_eq_true rfl) : SpecM P f O ins ra O' := by
  intro w n ok hok ψ0 φ0 vs hsz hp0 hro
  have hmin : min fn.ntmps 1000000 = fn.ntmps := Nat.min_eq_left h6
  have hJ := h (mkM w fn.ntmps ok hok ψ0 φ0 O) hmin (fun i hi => by show fixO φ0 O i = none; unfold fixO; rw [hi]; split <;> rfl)
  have hp : Hp (mkM w fn.ntmps ok hok ψ0 φ0 O) ψ0 φ0 O w := ⟨hp0.below, hp0.objs, hp0.disj, hp0.own, hp0.fix⟩
  refine calls_of_wp hf hb (wp_mono (hJ { tmps := vs ++ Array.replicate (fn.ntmps - vs.size) undef, defers := [] } w ⟨ψ0, φ0, rfl, by simp [hsz, mkM]; omega, hp, fun t av ht => ?_⟩) (fun e a w' q => ?_))
  · rw [lk_enumE, if_pos (Nat.zero_le _), Nat.sub_zero] at ht
    have htl : t < ins.length := (List.getElem?_eq_some_iff.1 ht).1
    refine ⟨by show t < min _ _; rw [hmin]; exact Nat.lt_of_lt_of_le htl hn, ?_⟩
    have htv : t < vs.size := by omega
    have e : (vs ++ Array.replicate (fn.ntmps - vs.size) undef).getD t undef = vs[t] := by
      rw [Array.getD_eq_getD_getElem?, Array.getElem?_append_left htv, Array.getElem?_eq_getElem htv]
      rfl
    show Rep w _ _ _ _ av ((vs ++ Array.replicate (fn.ntmps - vs.size) undef).getD t undef)
    rw [e]
    exact hro t av _ ht (Array.getElem?_eq_getElem htv)
  · have hres : ∀ s1, Fin P (mkM w fn.ntmps ok hok ψ0 φ0 O) fn ra O' s1 → Sim (mkM w fn.ntmps ok hok ψ0 φ0 O) s1 a w' → a.defers = [] ∧ ∃ v, (results fn a.tmps).run P w' = .ok v w' ∧ ∃ v' ψ φ, Ending.returned v = .returned v' ∧ Hp (mkM w n ok hok ψ0 φ0 O) ψ φ O' w' ∧ Rep w' (okS (mkM w n ok hok ψ0 φ0 O) ψ O' w') (idsS O') ψ φ ra v' := by
      intro s1 h1 h2
      obtain ⟨v, ψ, φ, hr, hp, hrep⟩ := h1 a w' h2
      obtain ⟨ψ0, φ0, hF⟩ := h2
      exact ⟨hF.defers, v, hr, v, ψ, φ, rfl, ⟨hp.below, hp.objs, hp.disj, hp.own, hp.fix⟩, hrep⟩
    cases e with
    | normal => obtain ⟨s1, h1, h2⟩ := q; exact hres s1 h1 h2
    | ret => obtain ⟨s1, h1, h2⟩ := q; exact hres s1 h1 h2
    | exit i => obtain ⟨s1, h1, h2⟩ := q; exact h1.elim
    | goto l => exact q.elim
    | panic ch => exact q.elim
    | outgrown => exact q.elim

/-! ### 41. What becomes of the caller's handles -/
mutual
def AV.jm (K G : List Nat) : AV → AV
  | .own j p => bif K.elem j && !(G.elem j && p.isEmpty) then .junk else .own j p
  | .box j f => bif K.elem j && !G.elem j then .junk else .box j f
  | .oref j q a b c => bif K.elem j then .junk else .oref j q a b c
  | .agg cs => .agg (AV.jmL K G cs)
  | .tup cs => .tup (AV.jmL K G cs)
  | .clo g nf cs => .clo g nf (AV.jmL K G cs)
  | .part j q a b c => bif K.elem j then .junk else .part j q a b c
  | .junk => .junk
  | .val v => .val v
  | .sl a b => .sl a b
  | .ref cs => .ref cs
def AV.jmL (K G : List Nat) : List AV → List AV
  | [] => []
  | a :: t => AV.jm K G a :: AV.jmL K G t
end
theorem jmL_map (K G : List Nat) : ∀ cs, AV.jmL K G cs = cs.map (AV.jm K G)
  | [] => rfl
  | a :: t => by simp [AV.jmL, jmL_map K G t]
theorem RO.jm {w : World} {ok : Nat → Prop} {a : AV} {v : Value} (h : RO w ok a v) (K G : List Nat) : RO w ok (AV.jm K G a) v := by
  induction h with
  | junk v => simp only [AV.jm]; exact .junk v
  | val v => simp only [AV.jm]; exact .val v
  | agg cs vs hl h ih =>
    simp only [AV.jm, jmL_map]
    refine .agg _ vs (by simpa using hl) (fun j a u ha hu => ?_)
    rw [List.getElem?_map, Option.map_eq_some_iff] at ha
    obtain ⟨b, hb, rfl⟩ := ha
    exact ih j b u hb hu
  | tup cs vs hl h ih =>
    simp only [AV.jm, jmL_map]
    refine .tup _ vs (by simpa using hl) (fun j a u ha hu => ?_)
    rw [List.getElem?_map, Option.map_eq_some_iff] at ha
    obtain ⟨b, hb, rfl⟩ := ha
    exact ih j b u hb hu
  | clo g nf cs vf vc hl hn h ih =>
    simp only [AV.jm, jmL_map]
    refine .clo g nf _ vf vc (by simpa using hl) hn (fun j a u ha hu => ?_)
    rw [List.getElem?_map, Option.map_eq_some_iff] at ha
    obtain ⟨b, hb, rfl⟩ := ha
    exact ih j b u hb hu
  | slNil sz => simp only [AV.jm]; exact .slNil sz
  | sl sz xs ad cap us hn hc hok hsz hcell h _ => simp only [AV.jm]; exact .sl sz xs ad cap us hn hc hok hsz hcell h
  | ref cs ad us hok hcell h _ => simp only [AV.jm]; exact .ref cs ad us hok hcell h
theorem Rep.jm {w : World} {ok : Nat → Prop} {ids : Nat → List Nat → Prop} {ψ : Nat → List Nat} {φ : Nat → Value} {a : AV} {v : Value} (h : Rep w ok ids ψ φ a v) (K G : List Nat) : Rep w ok (fun j p => ids j p ∧ (j ∉ K ∨ (p = [] ∧ j ∈ G))) ψ φ (AV.jm K G a) v := by
  induction h with
  | ro h => exact .ro (h.jm K G)
  | own j p v h ha =>
    simp only [AV.jm]
    cases e : K.elem j with
    | true =>
      cases e2 : G.elem j with
      | true =>
        cases p with
        | nil => exact .own j [] v ⟨h, .inr ⟨rfl, List.mem_of_elem_eq_true e2⟩⟩ ha
        | cons q p => exact .ro (.junk _)
      | false => exact .ro (.junk _)
    | false => exact .own j p v ⟨h, .inl (elem_false e)⟩ ha
  | box j off b h hb =>
    simp only [AV.jm]
    cases e : K.elem j with
    | true =>
      cases e2 : G.elem j with
      | true => exact .box j off b ⟨h, .inr ⟨rfl, List.mem_of_elem_eq_true e2⟩⟩ hb
      | false => exact .ro (.junk _)
    | false => exact .box j off b ⟨h, .inl (elem_false e)⟩ hb
  | oref j p sz q c g n cap h ha =>
    simp only [AV.jm]
    cases e : K.elem j with
    | true => exact .ro (.junk _)
    | false => exact .oref j p sz q c g n cap ⟨h, .inl (elem_false e)⟩ ha
  | part j p sz l n m cap A h ha hl hn hm =>
    simp only [AV.jm]
    cases e : K.elem j with
    | true => exact .ro (.junk _)
    | false => exact .part j p sz l n m cap A ⟨h, .inl (elem_false e)⟩ ha hl hn hm
  | agg cs vs hl _ ih =>
    simp only [AV.jm, jmL_map]
    refine .agg _ vs (by simpa using hl) (fun j a u ha hu => ?_)
    rw [List.getElem?_map, Option.map_eq_some_iff] at ha
    obtain ⟨b, hb, rfl⟩ := ha
    exact ih j b u hb hu
  | tup cs vs hl _ ih =>
    simp only [AV.jm, jmL_map]
    refine .tup _ vs (by simpa using hl) (fun j a u ha hu => ?_)
    rw [List.getElem?_map, Option.map_eq_some_iff] at ha
    obtain ⟨b, hb, rfl⟩ := ha
    exact ih j b u hb hu
  | clo g nf cs vf vc hl hn _ ih =>
    simp only [AV.jm, jmL_map]
    refine .clo g nf _ vf vc (by simpa using hl) hn (fun j a u ha hu => ?_)
    rw [List.getElem?_map, Option.map_eq_some_iff] at ha
    obtain ⟨b, hb, rfl⟩ := ha
    exact ih j b u hb hu
def jmE (K G : List Nat) : List (Nat × AV) → List (Nat × AV)
  | [] => []
  | (t, a) :: r => (t, AV.jm K G a) :: jmE K G r
def jmB (K G : List Nat) : Obj → Obj
  | .box T cs => .box T (AV.jmL K G cs)
  | o => o
def jmO (K G : List Nat) : List (Nat × Obj) → List (Nat × Obj)
  | [] => []
  | (j, o) :: r => bif K.elem j then jmO K G r else (j, jmB K G o) :: jmO K G r
theorem lk_jmE (K G : List Nat) (t : Nat) : ∀ l : List (Nat × AV), lk t (jmE K G l) = (lk t l).map (AV.jm K G)
  | [] => rfl
  | (k, a) :: r => by
    simp only [jmE, lk_cons]
    by_cases h : k = t
    · simp [h]
    · simp [h, lk_jmE K G t r]
theorem lk_jmO (K G : List Nat) (t : Nat) : ∀ l : List (Nat × Obj), lk t (jmO K G l) = if t ∈ K then none else (lk t l).map (jmB K G)
  | [] => by simp [jmO, lk]
  | (k, a) :: r => by
    have ih := lk_jmO K G t r
    simp only [jmO]
    by_cases h : k ∈ K
    · rw [List.elem_eq_true_of_mem h, cond_true, ih, lk_cons]
      by_cases h2 : k = t
      · subst h2
        rw [if_pos h, if_pos h]
      · rw [if_neg h2]
    · have : K.elem k = false := by
        cases e : K.elem k
        · rfl
        · exact absurd (List.mem_of_elem_eq_true e) h
      rw [this, cond_false, lk_cons, lk_cons, ih]
      by_cases h2 : k = t
      · subst h2
        rw [if_pos rfl, if_neg h, if_pos rfl]
        rfl
      · rw [if_neg h2, if_neg h2]
theorem fixable_jmB {K G : List Nat} {i : Nat} {o : Obj} : fixable i (jmB K G o) = fixable i o := by cases o <;> rfl
theorem has_jmB {K G : List Nat} {o : Obj} {p : List Nat} : (jmB K G o).has p ↔ o.has p := by cases o <;> exact Iff.rfl

/-! ### 42. Names behind a call: those of a million and more stay -/
def smN (d i : Nat) : Nat := bif Nat.ble 1000000 i then i else d + 1000 * i
def unM (d j : Nat) : Nat := bif Nat.ble 1000000 j then j else (j - d) / 1000
mutual
def AV.sm (d : Nat) : AV → AV
  | .own i p => .own (smN d i) p
  | .box i f => .box (smN d i) f
  | .oref i p a b c => .oref (smN d i) p a b c
  | .agg cs => .agg (AV.smL d cs)
  | .tup cs => .tup (AV.smL d cs)
  | .clo g nf cs => .clo g nf (AV.smL d cs)
  | .part i p a b c => .part (smN d i) p a b c
  | .junk => .junk
  | .val v => .val v
  | .sl a b => .sl a b
  | .ref cs => .ref cs
def AV.smL (d : Nat) : List AV → List AV
  | [] => []
  | a :: r => AV.sm d a :: AV.smL d r
end
theorem smL_map (d : Nat) : ∀ cs, AV.smL d cs = cs.map (AV.sm d)
  | [] => rfl
  | a :: r => by simp [AV.smL, smL_map d r]
def smB (d : Nat) : Obj → Obj
  | .box T cs => .box T (AV.smL d cs)
  | o => o
def smO (d : Nat) : List (Nat × Obj) → List (Nat × Obj)
  | [] => []
  | (i, o) :: r => (smN d i, smB d o) :: smO d r
/-- Each name of a list is great, or is moved to a small one. -/
def okN (d : Nat) : List (Nat × Obj) → Bool
  | [] => true
  | (i, _) :: r => (Nat.ble 1000000 i || Nat.blt (d + 1000 * i) 1000000) && okN d r
theorem un_sm {d i : Nat} (h : 1000000 ≤ i ∨ d + 1000 * i < 1000000) : unM d (smN d i) = i := by
  unfold unM smN
  by_cases c : 1000000 ≤ i
  · rw [Nat.ble_eq_true_of_le c]
    simp [Nat.ble_eq_true_of_le c]
  · have c1 : Nat.ble 1000000 i = false := by
      cases e : Nat.ble 1000000 i
      · rfl
      · exact absurd (Nat.le_of_ble_eq_true e) c
    have c2 : Nat.ble 1000000 (d + 1000 * i) = false := by
      cases e : Nat.ble 1000000 (d + 1000 * i)
      · rfl
      · have := Nat.le_of_ble_eq_true e
        omega
    rw [c1, cond_false, c2, cond_false]
    omega
theorem okN_lk {d i : Nat} {o : Obj} : ∀ {L : List (Nat × Obj)}, okN d L = true → lk i L = some o → 1000000 ≤ i ∨ d + 1000 * i < 1000000
  | [], _, h => by cases h
  | (k, o') :: r, hs, h => by
    simp only [okN, Bool.and_eq_true, Bool.or_eq_true] at hs
    rw [lk_cons] at h
    by_cases e : k = i
    · subst e
      rcases hs.1 with h1 | h1
      · exact .inl (Nat.le_of_ble_eq_true h1)
      · exact .inr (by simpa [Nat.blt_eq] using h1)
    · rw [if_neg e] at h
      exact okN_lk hs.2 h
theorem lk_smO {d i : Nat} (hi : 1000000 ≤ i ∨ d + 1000 * i < 1000000) : ∀ {l : List (Nat × Obj)}, okN d l = true → lk (smN d i) (smO d l) = (lk i l).map (smB d)
  | [], _ => rfl
  | (k, o) :: r, hs => by
    simp only [okN, Bool.and_eq_true, Bool.or_eq_true] at hs
    rw [smO, lk_cons, lk_cons, lk_smO hi hs.2]
    by_cases h : k = i
    · rw [if_pos h, if_pos (by rw [h])]; rfl
    · have hk : 1000000 ≤ k ∨ d + 1000 * k < 1000000 := by
        rcases hs.1 with h1 | h1
        · exact .inl (Nat.le_of_ble_eq_true h1)
        · exact .inr (by simpa [Nat.blt_eq] using h1)
      rw [if_neg h, if_neg (fun e => h (by rw [← un_sm hk, e, un_sm hi]))]
theorem lk_smO_inv {d j : Nat} : ∀ {l : List (Nat × Obj)} {o}, okN d l = true → lk j (smO d l) = some o → ∃ i x, j = smN d i ∧ (1000000 ≤ i ∨ d + 1000 * i < 1000000) ∧ lk i l = some x ∧ o = smB d x
  | [], o, _, h => by cases h
  | (k, o') :: r, o, hs, h => by
    have hs' := hs
    simp only [okN, Bool.and_eq_true, Bool.or_eq_true] at hs'
    have hk : 1000000 ≤ k ∨ d + 1000 * k < 1000000 := by
      rcases hs'.1 with h1 | h1
      · exact .inl (Nat.le_of_ble_eq_true h1)
      · exact .inr (by simpa [Nat.blt_eq] using h1)
    rw [smO, lk_cons] at h
    by_cases e : smN d k = j
    · rw [if_pos e] at h
      exact ⟨k, o', e.symm, hk, by rw [lk_cons, if_pos rfl], (Option.some.inj h).symm⟩
    · rw [if_neg e] at h
      obtain ⟨i, x, e1, e2, e3, e4⟩ := lk_smO_inv hs'.2 h
      refine ⟨i, x, e1, e2, ?_, e4⟩
      rw [lk_cons, if_neg (fun c => e (by rw [c, e1]))]
      exact e3
theorem RO.sm {w : World} {ok : Nat → Prop} {a : AV} {v : Value} (h : RO w ok a v) (d : Nat) : RO w ok (AV.sm d a) v := by
  induction h with
  | junk v => simp only [AV.sm]; exact .junk v
  | val v => simp only [AV.sm]; exact .val v
  | agg cs vs hl h ih =>
    simp only [AV.sm, smL_map]
    refine .agg _ vs (by simpa using hl) (fun j a u ha hu => ?_)
    rw [List.getElem?_map, Option.map_eq_some_iff] at ha
    obtain ⟨b, hb, rfl⟩ := ha
    exact ih j b u hb hu
  | tup cs vs hl h ih =>
    simp only [AV.sm, smL_map]
    refine .tup _ vs (by simpa using hl) (fun j a u ha hu => ?_)
    rw [List.getElem?_map, Option.map_eq_some_iff] at ha
    obtain ⟨b, hb, rfl⟩ := ha
    exact ih j b u hb hu
  | clo g nf cs vf vc hl hn h ih =>
    simp only [AV.sm, smL_map]
    refine .clo g nf _ vf vc (by simpa using hl) hn (fun j a u ha hu => ?_)
    rw [List.getElem?_map, Option.map_eq_some_iff] at ha
    obtain ⟨b, hb, rfl⟩ := ha
    exact ih j b u hb hu
  | slNil sz => simp only [AV.sm]; exact .slNil sz
  | sl sz xs ad cap us hn hc hok hsz hcell h _ => simp only [AV.sm]; exact .sl sz xs ad cap us hn hc hok hsz hcell h
  | ref cs ad us hok hcell h _ => simp only [AV.sm]; exact .ref cs ad us hok hcell h
theorem fixable_smB {d i : Nat} {o : Obj} : fixable i (smB d o) = fixable i o := by cases o <;> rfl
/-- The great names of O' are among those of O, of the same kind; the other names are new. -/
def clearM (os : List (Nat × Obj)) (d : Nat) (O : List (Nat × Obj)) : List (Nat × Obj) → Bool
  | [] => true
  | (i, o) :: r => (bif Nat.ble 1000000 i then (match lk i O with | some x => (fixable i o == fixable i x) | none => false) else (lk (smN d i) os).isNone) && clearM os d O r
theorem clearM_lk {os O : List (Nat × Obj)} {d i : Nat} {o : Obj} : ∀ {L : List (Nat × Obj)}, clearM os d O L = true → lk i L = some o → (1000000 ≤ i → ∃ x, lk i O = some x ∧ fixable i o = fixable i x) ∧ (¬ 1000000 ≤ i → lk (smN d i) os = none)
  | [], _, h => by cases h
  | (k, o') :: r, hs, h => by
    simp only [clearM, Bool.and_eq_true] at hs
    rw [lk_cons] at h
    by_cases e : k = i
    · subst e
      rw [if_pos rfl] at h
      obtain rfl := Option.some.inj h
      refine ⟨fun c => ?_, fun c => ?_⟩
      · rw [Nat.ble_eq_true_of_le c, cond_true] at hs
        have h1 := hs.1
        split at h1
        · rename_i x e2
          exact ⟨x, e2, by simpa using h1⟩
        · cases h1
      · have c1 : Nat.ble 1000000 k = false := by
          cases e : Nat.ble 1000000 k
          · rfl
          · exact absurd (Nat.le_of_ble_eq_true e) c
        rw [c1, cond_false] at hs
        simpa using hs.1
    · rw [if_neg e] at h
      exact clearM_lk hs.2 h
/-- The objects whose root stays. -/
def kept (O' : List (Nat × Obj)) : List (Nat × Obj) → List Nat
  | [] => []
  | (i, o) :: r => match lk i O' with
    | some x => bif fixable i o && fixable i x then i :: kept O' r else kept O' r
    | none => kept O' r
theorem kept_mem {O' : List (Nat × Obj)} {i : Nat} : ∀ {O : List (Nat × Obj)}, i ∈ kept O' O → (∃ o, (i, o) ∈ O ∧ fixable i o = true) ∧ ∃ x, lk i O' = some x ∧ fixable i x = true
  | [], h => by cases h
  | (k, o) :: r, h => by
    have rec_ : i ∈ kept O' r → (∃ o', (i, o') ∈ (k, o) :: r ∧ fixable i o' = true) ∧ ∃ x, lk i O' = some x ∧ fixable i x = true := fun h => by
      obtain ⟨⟨o', h2, h4⟩, h3⟩ := kept_mem (O := r) h
      exact ⟨⟨o', List.mem_cons_of_mem _ h2, h4⟩, h3⟩
    simp only [kept] at h
    split at h
    · rename_i x e
      cases c : fixable k o && fixable k x with
      | true =>
        rw [c, cond_true] at h
        simp only [Bool.and_eq_true] at c
        rcases List.mem_cons.1 h with rfl | h
        · exact ⟨⟨o, List.mem_cons_self, c.1⟩, ⟨_, e, c.2⟩⟩
        · exact rec_ h
      | false => rw [c, cond_false] at h; exact rec_ h
    · exact rec_ h
theorem fixable_le {i : Nat} {o : Obj} (h : fixable i o = true) : 1000000 ≤ i := by
  by_cases c : i < 1000000
  · rw [fixable_lt c] at h; cases h
  · omega

/-! ### 43. The call -/
theorem has_root (o : Obj) : o.has [] := by
  cases o with
  | tree t => exact ⟨t, rfl⟩
  | box => exact (rfl : ([] : List Nat) = [])
  | mp => exact (rfl : ([] : List Nat) = [])
/-- What an operation enters, with which values. -/
def Enters (P : Program) (C : Ctx) (s : AS) (o : Oper) (f : FuncId) (ins : List AV) : Prop := ∀ ψ φ a w, SimF C ψ φ s a w → ∃ vs : Array Value, (∀ w1, (execOp a.eval o).run P w1 = .ok (.enter f vs) w1) ∧ vs.size = ins.length ∧ ∀ (j : Nat) b u, ins[j]? = some b → vs[j]? = some u → Rep w (okS C ψ s.objs w) (idsS s.objs) ψ φ b u
theorem keys_lk {β : Type} {i : Nat} {o : β} : ∀ {l : List (Nat × β)}, lk i l = some o → i ∈ keys l
  | [], h => by cases h
  | (j, b) :: r, h => by
    rw [lk_cons] at h
    by_cases e : j = i
    · rw [keys, e]; exact List.mem_cons_self
    · rw [if_neg e] at h
      exact List.mem_cons_of_mem _ (keys_lk h)
/-- A call, and what is there behind it. -/
def CallsTo (P : Program) (C : Ctx) (s : AS) (o : Oper) (O : List (Nat × Obj)) (ra : AV) (O' : List (Nat × Obj)) : Prop := ∀ ψ φ a w, SimF C ψ φ s a w → ∃ f vs, (execOp a.eval o).run P w = .ok (.enter f vs) w ∧ Calls P f vs w fun e w' => ∃ v ψc φc, e = .returned v ∧
  Hp (mkM w 0 (okS C ψ s.objs w) (fun k hk => hk.2.1) ψ φ O) ψc φc O' w' ∧ Rep w' (okS (mkM w 0 (okS C ψ s.objs w) (fun k hk => hk.2.1) ψ φ O) ψc O' w') (idsS O') ψc φc ra v
theorem callsM {f : FuncId} {ins : List AV} {ra : AV} {O O' : List (Nat × Obj)} (hS : SpecM P f O ins ra O') (hE : Enters P C s o f ins) (hin : AV.withinL (keys O) ins = true) (hO : subO O s.objs) (hOw : withinO (keys O) O = true) : CallsTo P C s o O ra O' := by
  intro ψ φ a w hF
  obtain ⟨vs, hrun, hsz, hvs⟩ := hE ψ φ a w hF
  have hlO : ∀ i x, lk i O = some x → lk i s.objs = some x := fun i x h => subO_lk hO h
  have hokO : ∀ k, okS C ψ s.objs w k → okS (mkM w 0 (okS C ψ s.objs w) (fun k hk => hk.2.1) ψ φ O) ψ O w k := fun k hk => ⟨.inl hk, hk.2.1, fun i x hi => hk.2.2 i x (hlO i x hi)⟩
  have hmvO : Mv w w (fun j p => idsS s.objs j p ∧ j ∈ keys O) (idsS O) ψ ψ φ φ := ⟨fun j p ⟨⟨x, hx, hp⟩, hj⟩ => by
    obtain ⟨y, hy⟩ := lk_keys j O hj
    have := hlO j y hy
    rw [hx] at this
    obtain rfl := Option.some.inj this
    exact ⟨_, hy, hp⟩, fun _ _ _ => rfl, fun _ _ _ _ h => h⟩
  have hp0 : Hp (mkM w 0 (okS C ψ s.objs w) (fun k hk => hk.2.1) ψ φ O) ψ φ O w := by
    refine ⟨Ch.refl _ _, fun i x hi => ?_, fun i j oi oj k hi hj => hF.hp.disj i j oi oj k (hlO i oi hi) (hlO j oj hj), fun i x k hi hk => .inr ⟨i, x, hi, hk⟩, fun i v oi hv hi _ => ?_⟩
    · have hx := hF.hp.objs i x (hlO i x hi)
      cases x with
      | tree t => exact TreeAt.move hx (fun _ _ => rfl) (fun _ _ => rfl) hokO
      | mp ks => exact MpAt.move hx (fun _ _ => rfl)
      | box T cs =>
        obtain ⟨b, cur, e3, e4, hB, hc, hs, h1', hr⟩ := hx
        exact ⟨b, cur, e3, e4, hB, hc, hs, h1', fun q av u ha hu => ((hr q av u ha hu).within (withinL_mem _ cs (withinO_lk hOw hi) av (List.mem_of_getElem? ha))).move (fun _ _ => rfl) hokO hmvO⟩
    · change fixO φ O i = some v at hv
      unfold fixO at hv
      rw [hi] at hv
      split at hv
      · exact Option.some.inj hv
      · cases hv
  exact ⟨f, vs, hrun w, hS w 0 (okS C ψ s.objs w) (fun k hk => hk.2.1) ψ φ vs hsz hp0 (fun j b u hb hu => ((hvs j b u hb hu).within (withinL_mem _ ins hin b (List.mem_of_getElem? hb))).move (fun _ _ => rfl) hokO hmvO)⟩
theorem op_callM {ra : AV} {O O' : List (Nat × Obj)} {d : Nat} (hcall : CallsTo P C s o O ra O') (hO : subO O s.objs) (hOd : dist O = true)
    (hd : o.dst = some d) (hn : d < C.n) (hN : okN d O' = true) (hcl : clearM s.objs d O O' = true) : OpD P C (keys O) o s ⟨(d, AV.sm d ra) :: jmE (keys O) (kept O' O) s.env, smO d O' ++ jmO (keys O) (kept O' O) s.objs⟩ := by
  intro ψ φ a w hF
  obtain ⟨f, vs, hrun, hcalls⟩ := hcall ψ φ a w hF
  have hlO : ∀ i x, lk i O = some x → lk i s.objs = some x := fun i x h => subO_lk hO h
  unfold Oper.wp
  rw [hrun, Oper.upon_enter]
  refine Calls.mono hcalls (fun e w' hq => ?_)
  obtain ⟨v, ψc, φc, rfl, hp, hrep⟩ := hq
  have hbel : Ch w w' (inO ψ O) := hp.below
  have hinD : ∀ k, inO ψ O k → inD ψ s.objs (keys O) k := fun k ⟨i, x, hi, hk⟩ => ⟨i, x, keys_lk hi, hlO i x hi, hk⟩
  have hKO : ∀ j, j ∈ keys O → ∃ x, lk j O = some x := fun j hj => lk_keys j O hj
  let ψ' : Nat → List Nat := fun j => match lk j (smO d O') with | some _ => ψc (unM d j) | none => ψ j
  let φ' : Nat → Value := fun j => match lk j (smO d O') with | some _ => φc (unM d j) | none => φ j
  have hψc : ∀ i oi, lk i O' = some oi → ψ' (smN d i) = ψc i ∧ φ' (smN d i) = φc i := by
    intro i oi hi
    have hi' := okN_lk hN hi
    have h1 : lk (smN d i) (smO d O') = some (smB d oi) := by rw [lk_smO hi' hN, hi]; rfl
    exact ⟨by simp only [ψ', h1, un_sm hi'], by simp only [φ', h1, un_sm hi']⟩
  have hold : ∀ j oj, j ∉ keys O → lk j s.objs = some oj → lk j (smO d O') = none := by
    intro j oj hjK hj
    cases e : lk j (smO d O') with
    | none => rfl
    | some x =>
      obtain ⟨i, y, rfl, hi, hy, _⟩ := lk_smO_inv hN e
      obtain ⟨c1, c2⟩ := clearM_lk hcl hy
      by_cases c : 1000000 ≤ i
      · obtain ⟨z, hz, _⟩ := c1 c
        have e1 : smN d i = i := by unfold smN; rw [Nat.ble_eq_true_of_le c, cond_true]
        rw [e1] at hjK
        exact absurd (keys_lk hz) hjK
      · rw [c2 c] at hj
        cases hj
  have hψo : ∀ j oj, j ∉ keys O → lk j s.objs = some oj → ψ' j = ψ j ∧ φ' j = φ j := fun j oj hK hj => ⟨by simp only [ψ', hold j oj hK hj], by simp only [φ', hold j oj hK hj]⟩
  have hlko : ∀ j oj, j ∉ keys O → lk j s.objs = some oj → lk j (smO d O' ++ jmO (keys O) (kept O' O) s.objs) = some (jmB (keys O) (kept O' O) oj) := fun j oj hK hj => by rw [lk_append, hold j oj hK hj, lk_jmO, if_neg hK, hj]; rfl
  have hlkc : ∀ i oi, lk i O' = some oi → lk (smN d i) (smO d O' ++ jmO (keys O) (kept O' O) s.objs) = some (smB d oi) := fun i oi hi => by rw [lk_append, lk_smO (okN_lk hN hi) hN, hi]; rfl
  have hlki : ∀ j oj, lk j (smO d O' ++ jmO (keys O) (kept O' O) s.objs) = some oj → (∃ i oi, j = smN d i ∧ lk i O' = some oi ∧ oj = smB d oi) ∨ (j ∉ keys O ∧ ∃ x, lk j s.objs = some x ∧ oj = jmB (keys O) (kept O' O) x) := by
    intro j oj hj
    rw [lk_append] at hj
    cases e : lk j (smO d O') with
    | none =>
      rw [e, lk_jmO] at hj
      by_cases c : j ∈ keys O
      · rw [if_pos c] at hj; cases hj
      · rw [if_neg c, Option.map_eq_some_iff] at hj
        obtain ⟨x, hx, hxe⟩ := hj
        exact .inr ⟨c, x, hx, hxe.symm⟩
    | some x =>
      rw [e] at hj
      obtain ⟨i, y, h1, _, h3, h4⟩ := lk_smO_inv hN e
      exact .inl ⟨i, y, h1, h3, by rw [← h4]; exact (Option.some.inj hj).symm⟩
  have hltc : ∀ i oi k, lk i O' = some oi → k ∈ ψc i → (w.heap.size ≤ k ∨ inO ψ O k) ∧ k < w'.heap.size := fun i oi k hi hk => hp.lt hi hk
  -- the caller's other objects are not touched
  have hnot : ∀ j oj k, j ∉ keys O → lk j s.objs = some oj → k ∈ ψ j → ¬ inO ψ O k := fun j oj k hK hj hk ⟨i, x, hi, hki⟩ => hK (by rw [hF.hp.disj j i oj x k hj (hlO i x hi) hk hki]; exact keys_lk hi)
  have hsame : ∀ j oj, j ∉ keys O → lk j s.objs = some oj → ∀ k ∈ ψ j, w'.heap[k]? = w.heap[k]? := fun j oj hK hj k hk => hbel.block k (hF.hp.lt hj hk).2 (hnot j oj k hK hj hk)
  have hblk : ∀ k, okS C ψ s.objs w k → w'.heap[k]? = w.heap[k]? := fun k hk => hbel.block k hk.2.1 (fun ⟨i, x, hi, hki⟩ => hk.2.2 i x (hlO i x hi) hki)
  have hgreat : ∀ i, 1000000 ≤ i → smN d i = i := fun i c => by unfold smN; rw [Nat.ble_eq_true_of_le c, cond_true]
  have hG : ∀ j, j ∈ kept O' O → 1000000 ≤ j ∧ (∃ x, lk j O = some x) ∧ ∃ x, lk j O' = some x ∧ fixable j x = true := fun j hj => by
    obtain ⟨⟨o, h2, h4⟩, h3⟩ := kept_mem hj
    exact ⟨fixable_le h4, ⟨o, dist_lk hOd _ h2⟩, h3⟩
  have hfixc : ∀ j x y, 1000000 ≤ j → lk j O = some x → lk j O' = some y → fixable j y = true → φc j = φ j := fun j x y c h1 h2 h3 => hp.fix j (φ j) y (by show fixO φ O j = _; unfold fixO; rw [if_pos c, h1]) h2 h3
  have hmo : Mv w w' (fun j p => idsS s.objs j p ∧ (j ∉ keys O ∨ (p = [] ∧ j ∈ kept O' O))) (idsS (smO d O' ++ jmO (keys O) (kept O' O) s.objs)) ψ ψ' φ φ' := by
    refine ⟨?_, ?_, ?_⟩
    · rintro j p ⟨⟨oj, hj, h⟩, hc | ⟨rfl, hc⟩⟩
      · exact ⟨_, hlko j oj hc hj, has_jmB.2 h⟩
      · obtain ⟨h1, _, y, h3, _⟩ := hG j hc
        have := hlkc j _ h3
        rw [hgreat j h1] at this
        exact ⟨_, this, has_root _⟩
    · rintro j p ⟨⟨oj, hj, h⟩, hc | ⟨rfl, hc⟩⟩
      · exact (hψo j oj hc hj).2
      · obtain ⟨h1, ⟨x, h2⟩, y, h3, h4⟩ := hG j hc
        have := (hψc j _ h3).2
        rw [hgreat j h1] at this
        rw [this]
        exact hfixc j _ _ h1 h2 h3 h4
    · rintro j p v ⟨⟨oj, hj, h⟩, hc | ⟨rfl, hc⟩⟩ ha
      · rw [(hψo j oj hc hj).1]
        exact ha.move (hsame j oj hc hj)
      · exact ha
  have hok : ∀ k, okS C ψ s.objs w k → okS C ψ' (smO d O' ++ jmO (keys O) (kept O' O) s.objs) w' k := by
    rintro k ⟨k1, k2, k3⟩
    refine ⟨k1, Nat.lt_of_lt_of_le k2 hbel.size, fun j oj hj hk => ?_⟩
    rcases hlki j oj hj with ⟨i, oi, rfl, hi, rfl⟩ | ⟨hK, x, hx, rfl⟩
    · rw [(hψc i oi hi).1] at hk
      rcases (hltc i oi k hi hk).1 with h1 | ⟨i', x, hi', hk'⟩
      · omega
      · exact k3 i' x (hlO i' x hi') hk'
    · rw [(hψo j x hK hx).1] at hk
      exact k3 j x hx hk
  have hokc : ∀ k, okS (mkM w 0 (okS C ψ s.objs w) (fun k hk => hk.2.1) ψ φ O) ψc O' w' k → okS C ψ' (smO d O' ++ jmO (keys O) (kept O' O) s.objs) w' k := by
    rintro k ⟨k1, k2, k3⟩
    have hold2 : (C.ok0 k ∨ C.own k) ∧ ∀ j oj, j ∉ keys O → lk j s.objs = some oj → k ∉ ψ j := by
      rcases k1 with h1 | h1 | ⟨i, x, hi, hki⟩
      · exact ⟨h1.1, fun j oj _ hj => h1.2.2 j oj hj⟩
      · have h1' : w.heap.size ≤ k := h1
        exact ⟨.inr (.inl (Nat.le_trans hF.hp.below.size h1')), fun j oj _ hj hk => by
          have := (hF.hp.lt hj hk).2
          omega⟩
      · exact ⟨.inr (hF.hp.own i x k (hlO i x hi) hki), fun j oj hK hj hk => hnot j oj k hK hj hk ⟨i, x, hi, hki⟩⟩
    refine ⟨hold2.1, k2, fun j oj hj hk => ?_⟩
    rcases hlki j oj hj with ⟨i, oi, rfl, hi, rfl⟩ | ⟨hK, x, hx, rfl⟩
    · rw [(hψc i oi hi).1] at hk
      exact k3 i oi hi hk
    · rw [(hψo j x hK hx).1] at hk
      exact hold2.2 j x hK hx hk
  have hrepc : ∀ b u, Rep w' (okS (mkM w 0 (okS C ψ s.objs w) (fun k hk => hk.2.1) ψ φ O) ψc O' w') (idsS O') ψc φc b u → Rep w' (okS C ψ' (smO d O' ++ jmO (keys O) (kept O' O) s.objs) w') (idsS (smO d O' ++ jmO (keys O) (kept O' O) s.objs)) ψ' φ' (AV.sm d b) u := by
    intro b u h
    have hids : ∀ i p, idsS O' i p → idsS (smO d O' ++ jmO (keys O) (kept O' O) s.objs) (smN d i) p ∧ ψ' (smN d i) = ψc i ∧ φ' (smN d i) = φc i := fun i p ⟨oi, hi, hp⟩ => ⟨⟨smB d oi, hlkc i oi hi, by cases oi <;> exact hp⟩, hψc i oi hi⟩
    induction h with
    | ro h => exact .ro ((h.move (fun _ _ => rfl) hokc).sm d)
    | own i p v h ha =>
      obtain ⟨h1, h2, h3⟩ := hids i p h
      exact .own _ p v h1 (by rw [h2, h3]; exact ha)
    | box i off b h hb =>
      obtain ⟨h1, h2, h3⟩ := hids i [] h
      exact .box _ off b h1 (by rw [h3]; exact hb)
    | oref i p sz j c g n cap h ha =>
      obtain ⟨h1, h2, h3⟩ := hids i p h
      exact .oref _ p sz j c g n cap h1 (by rw [h2, h3]; exact ha)
    | part i p sz l n m cap A h ha hl hn hm =>
      obtain ⟨h1, h2, h3⟩ := hids i p h
      exact .part _ p sz l n m cap A h1 (by rw [h2, h3]; exact ha) hl hn hm
    | agg cs vs hl _ ih =>
      simp only [AV.sm, smL_map]
      refine .agg _ vs (by simpa using hl) (fun j a u ha hu => ?_)
      rw [List.getElem?_map, Option.map_eq_some_iff] at ha
      obtain ⟨b, hb, rfl⟩ := ha
      exact ih j b u hb hu
    | tup cs vs hl _ ih =>
      simp only [AV.sm, smL_map]
      refine .tup _ vs (by simpa using hl) (fun j a u ha hu => ?_)
      rw [List.getElem?_map, Option.map_eq_some_iff] at ha
      obtain ⟨b, hb, rfl⟩ := ha
      exact ih j b u hb hu
    | clo g nf cs vf vc hl hn _ ih =>
      simp only [AV.sm, smL_map]
      refine .clo g nf _ vf vc (by simpa using hl) hn (fun j a u ha hu => ?_)
      rw [List.getElem?_map, Option.map_eq_some_iff] at ha
      obtain ⟨b, hb, rfl⟩ := ha
      exact ih j b u hb hu
  have hrepo : ∀ b u, Rep w (okS C ψ s.objs w) (idsS s.objs) ψ φ b u → Rep w' (okS C ψ' (smO d O' ++ jmO (keys O) (kept O' O) s.objs) w') (idsS (smO d O' ++ jmO (keys O) (kept O' O) s.objs)) ψ' φ' (AV.jm (keys O) (kept O' O) b) u := fun b u h => (h.jm (keys O) (kept O' O)).move hblk hok hmo
  have hF' : SimF C ψ' φ' ⟨jmE (keys O) (kept O' O) s.env, smO d O' ++ jmO (keys O) (kept O' O) s.objs⟩ a w' := by
    refine ⟨hF.defers, hF.size, ⟨hF.hp.below.trans hbel (fun k hk ⟨i, x, hi, hki⟩ => ?_), fun j oj hj => ?_, fun j j' oj oj' k hj hj' hk hk' => ?_, fun j oj k hj hk => ?_, fun j u oj hu hj hf => ?_⟩, fun t av ht => ?_⟩
    · rcases hF.hp.own i x k (hlO i x hi) hki with h1 | h1
      · omega
      · exact h1
    · rcases hlki j oj hj with ⟨i, oi, rfl, hi, rfl⟩ | ⟨hK, x, hx, rfl⟩
      · rw [(hψc i oi hi).1, (hψc i oi hi).2]
        exact boxSim' (AV.sm d) (smB d) (fun T cs => by simp [smB, smL_map]) (fun _ => rfl) (fun _ => rfl) (hp.objs i oi hi) (Nat.le_refl _) hokc hrepc
      · rw [(hψo j x hK hx).1, (hψo j x hK hx).2]
        exact boxSim (AV.jm (keys O) (kept O' O)) (jmB (keys O) (kept O' O)) (fun T cs => by simp [jmB, jmL_map]) (fun _ => rfl) (fun _ => rfl) (hF.hp.objs j x hx) (hsame j x hK hx) hblk hok hrepo
    · rcases hlki j oj hj with ⟨i, oi, rfl, hi, rfl⟩ | ⟨hK, x, hx, rfl⟩
      · rw [(hψc i oi hi).1] at hk
        rcases hlki j' oj' hj' with ⟨i', oi', rfl, hi', rfl⟩ | ⟨hK', x', hx', rfl⟩
        · rw [(hψc i' oi' hi').1] at hk'
          rw [hp.disj i i' oi oi' k hi hi' hk hk']
        · rw [(hψo j' x' hK' hx').1] at hk'
          rcases (hltc i oi k hi hk).1 with h1 | h1
          · have e2 := (hF.hp.lt hx' hk').2
            omega
          · exact absurd h1 (hnot j' x' k hK' hx' hk')
      · rw [(hψo j x hK hx).1] at hk
        rcases hlki j' oj' hj' with ⟨i', oi', rfl, hi', rfl⟩ | ⟨hK', x', hx', rfl⟩
        · rw [(hψc i' oi' hi').1] at hk'
          rcases (hltc i' oi' k hi' hk').1 with h1 | h1
          · have e2 := (hF.hp.lt hx hk).2
            omega
          · exact absurd h1 (hnot j x k hK hx hk)
        · rw [(hψo j' x' hK' hx').1] at hk'
          exact hF.hp.disj j j' x x' k hx hx' hk hk'
    · rcases hlki j oj hj with ⟨i, oi, rfl, hi, rfl⟩ | ⟨hK, x, hx, rfl⟩
      · rw [(hψc i oi hi).1] at hk
        rcases (hltc i oi k hi hk).1 with h1 | ⟨i', x, hi', hk'⟩
        · exact .inl (Nat.le_trans hF.hp.below.size h1)
        · exact hF.hp.own i' x k (hlO i' x hi') hk'
      · rw [(hψo j x hK hx).1] at hk
        exact hF.hp.own j x k hx hk
    · have h6 := C.hfix _ u hu
      rcases hlki j _ hj with ⟨i, oi, rfl, hi, rfl⟩ | ⟨hK, x, hx, rfl⟩
      · have h7 := okN_lk hN hi
        have hc : 1000000 ≤ i := by
          rcases h7 with h7 | h7
          · exact h7
          · by_cases c : 1000000 ≤ i
            · exact c
            · have e1 : Nat.ble 1000000 i = false := by
                cases e : Nat.ble 1000000 i
                · rfl
                · exact absurd (Nat.le_of_ble_eq_true e) c
              have : smN d i = d + 1000 * i := by unfold smN; rw [e1, cond_false]
              omega
        obtain ⟨x, h8, h9⟩ := (clearM_lk hcl hi).1 hc
        rw [hgreat i hc, fixable_smB] at hf
        rw [(hψc i _ hi).2, hfixc i _ _ hc h8 hi hf]
        rw [hgreat i hc] at hu
        exact hF.hp.fix i u x hu (hlO i _ h8) (by rw [← h9]; exact hf)
      · rw [(hψo j x hK hx).2]
        rw [fixable_jmB] at hf
        exact hF.hp.fix j u x hu hx hf
    · rw [lk_jmE, Option.map_eq_some_iff] at ht
      obtain ⟨x, hx, rfl⟩ := ht
      exact ⟨(hF.env t x hx).1, hrepo x _ (hF.env t x hx).2⟩
  rw [hd]
  refine ⟨ψ', φ', hF'.put d (AV.sm d ra) v hn (hrepc ra v hrep), ⟨hbel.os, hbel.tape, hbel.output, hbel.size, fun k hk hno => hbel.block k hk (fun h => hno (hinD k h))⟩, fun j oj hj k hk => ?_⟩
  rcases hlki j oj hj with ⟨i, oi, rfl, hi, rfl⟩ | ⟨hK, x, hx, rfl⟩
  · rw [(hψc i oi hi).1] at hk
    rcases (hltc i oi k hi hk).1 with h1 | h1
    · exact .inl h1
    · exact .inr (.inr (hinD k h1))
  · rw [(hψo j x hK hx).1] at hk
    exact .inr (.inl ⟨x, hx, hk⟩)
end
end Go.Proofs.YtmiijpobhajfmaaGreat.J
namespace Go.Proofs.YtmiijpobhajfmaaGreat.J
open Go Go.RowKit
set_option linter.unusedVariables false
set_option linter.unusedSimpArgs false
section
variable {P : Program} {C : Ctx} {s : AS} {o : Oper}

/-! ### 44. Function values -/
def evA (s : AS) : List Operand → List AV → Prop
  | [], [] => True
  | x :: r, a :: t => ev s x = some a ∧ evA s r t
  | _, _ => False
theorem evA_len {s : AS} : ∀ {l : List Operand} {as : List AV}, evA s l as → l.length = as.length
  | [], [], _ => rfl
  | _ :: _, _ :: _, h => by simp [evA_len h.2]
theorem evA_get {ψ : Nat → List Nat} {φ : Nat → Value} {a : Act} {w : World} (hF : SimF C ψ φ s a w) : ∀ {l : List Operand} {as : List AV}, evA s l as → ∀ (j : Nat) b u, as[j]? = some b → (l.map a.eval)[j]? = some u → Rep w (okS C ψ s.objs w) (idsS s.objs) ψ φ b u
  | [], [], _, j, b, u, h, _ => by simp at h
  | x :: r, c :: t, h, 0, b, u, hb, hu => by
    obtain rfl : c = b := by simpa using hb
    obtain rfl : a.eval x = u := by simpa using hu
    exact hF.ev h.1
  | x :: r, c :: t, h, j + 1, b, u, hb, hu => evA_get hF h.2 j b u (by simpa using hb) (by simpa using hu)
theorem p_clo {g : FuncId} {fs cs : List Operand} {as : List AV} (ho : o.op = .makeFunc (.func g) fs.toArray cs.toArray) (he : evA s (fs ++ cs) as) : PureOp P C o s (.clo g fs.length as) := fun ψ φ a w hF => by
  refine ⟨.func (.func g) (fs.map a.eval).toArray (cs.map a.eval).toArray, fun w1 _ => by simp [execOp, ho, Instr.makeFunc], ?_⟩
  refine .clo g fs.length as _ _ (by have := evA_len he; simp only [List.length_append] at this; simp; omega) (by simp) (fun j b u hb hu => evA_get hF he j b u hb ?_)
  rw [List.map_append]
  simpa using hu
theorem Rep.clo_inv {w : World} {ok : Nat → Prop} {ids : Nat → List Nat → Prop} {ψ : Nat → List Nat} {φ : Nat → Value} {g nf : Nat} {cs : List AV} {v : Value} (h : Rep w ok ids ψ φ (.clo g nf cs) v) : ∃ vf vc : Array Value, v = .func (.func g) vf vc ∧ (vf ++ vc).size = cs.length ∧ vf.size = nf ∧ ∀ (j : Nat) a u, cs[j]? = some a → (vf ++ vc)[j]? = some u → Rep w ok ids ψ φ a u := by
  cases h with
  | ro h =>
    cases h with
    | clo _ _ _ vf vc hl hn h => exact ⟨vf, vc, rfl, hl, hn, fun j a u ha hu => .ro (h j a u ha hu)⟩
  | clo _ _ _ vf vc hl hn h => exact ⟨vf, vc, rfl, hl, hn, h⟩
theorem enters_fn {f : FuncId} {fn : Func} {args : List Operand} {tys : Array TypeId} {ins : List AV} (ho : o.op = .call { callee := .value (.func f), args := args.toArray, argTypes := tys }) (hf : P.funcs[f]? = some fn) (hb : fn.body.isNone = false) (hnm : (fn.name == "runtime.NumGoroutine") = false) (he : evA s args ins) :
    Enters P C s o f ins := fun ψ φ a w hF => ⟨(args.map a.eval).toArray, fun w1 => run_call ho hf hb hnm a w1, by simp [evA_len he], fun j b u hb hu => evA_get hF he j b u hb (by simpa using hu)⟩
theorem enters_clo {g nf : Nat} {cs : List AV} {x : Operand} {fn : Func} {args : List Operand} {tys : Array TypeId} {ins : List AV} (ho : o.op = .call { callee := .value x, args := args.toArray, argTypes := tys }) (hx : ev s x = some (.clo g nf cs)) (hf : P.funcs[g]? = some fn) (hb : fn.body.isNone = false)
    (hnm : (fn.name == "runtime.NumGoroutine") = false) (he : evA s args ins) (hnf : nf ≤ cs.length) : Enters P C s o g (cs.take nf ++ ins ++ cs.drop nf) := fun ψ φ a w hF => by
  obtain ⟨vf, vc, e, hl, hn, hr⟩ := (hF.ev hx).clo_inv
  have hlen := evA_len he
  refine ⟨vf ++ (args.map a.eval).toArray ++ vc, fun w1 => ?_, ?_, fun j b u hb hu => ?_⟩
  · simp only [execOp, ho, resolve, e, Deferred.ofValue, Sem.run_bind, Sem.run_pure, Result.andThen_ok, invoke]
    have : (vf ++ Array.map a.eval args.toArray ++ vc : Array Value) = vf ++ (args.map a.eval).toArray ++ vc := by simp
    rw [this]
    exact run_callFunc hf hb hnm _ w1
  · simp only [Array.size_append, List.size_toArray, List.length_map, List.length_append, List.length_take, List.length_drop] at hl ⊢
    omega
  · have hs1 : vf.size = nf := hn
    have hl2 : vf.size + vc.size = cs.length := by simpa using hl
    by_cases c1 : j < nf
    · rw [List.append_assoc, List.getElem?_append_left (by rw [List.length_take]; omega), List.getElem?_take, if_pos c1] at hb
      rw [Array.append_assoc, Array.getElem?_append_left (by omega)] at hu
      exact hr j b u hb (by rw [Array.getElem?_append_left (by omega)]; exact hu)
    · by_cases c2 : j < nf + ins.length
      · rw [List.getElem?_append_left (by rw [List.length_append, List.length_take]; omega), List.getElem?_append_right (by rw [List.length_take]; omega), List.length_take] at hb
        rw [Array.getElem?_append_left (by simp; omega), Array.getElem?_append_right (by omega)] at hu
        refine evA_get hF he (j - nf) b u (by rw [← hb]; congr 1; omega) ?_
        rw [← hs1]
        simpa using hu
      · rw [List.getElem?_append_right (by rw [List.length_append, List.length_take]; omega), List.length_append, List.length_take, List.getElem?_drop] at hb
        rw [Array.getElem?_append_right (by simp; omega)] at hu
        refine hr (nf + (j - (nf + ins.length))) b u (by rw [← hb]; congr 1; omega) ?_
        rw [Array.getElem?_append_right (by omega), ← hu]
        simp only [Array.size_append, List.size_toArray, List.length_map]
        congr 1
        omega

/-! ### 45. Calls of functions that are lent nothing -/
theorem callsS_of {f : FuncId} {ra : AV} {L : List (Nat × Obj)} {ψ : Nat → List Nat} {φ : Nat → Value} {w : World} {ok : Nat → Prop} {hok : ∀ k, ok k → k < w.heap.size} {vs : Array Value}
    (h : Calls P f vs w fun e w' => ∃ v ψ φ, e = .returned v ∧ Hp (mkC w 0 ok hok) ψ φ L w' ∧ Rep w' (okS (mkC w 0 ok hok) ψ L w') (idsS L) ψ φ ra v) :
    Calls P f vs w fun e w' => ∃ v ψc φc, e = .returned v ∧ Hp (mkM w 0 ok hok ψ φ []) ψc φc L w' ∧ Rep w' (okS (mkM w 0 ok hok ψ φ []) ψc L w') (idsS L) ψc φc ra v := by
  have hno : ∀ k, ¬ inO ψ ([] : List (Nat × Obj)) k := fun k ⟨i, x, hi, _⟩ => by cases hi
  refine h.mono (fun e w' ⟨v, ψc, φc, he, hp, hr⟩ => ⟨v, ψc, φc, he, ?_, ?_⟩)
  · have hk : ∀ k, okS (mkC w 0 ok hok) ψc L w' k → okS (mkM w 0 ok hok ψ φ []) ψc L w' k := fun k ⟨k1, k2, k3⟩ => ⟨k1.elim .inl (fun h => .inr (h.elim .inl False.elim)), k2, k3⟩
    refine ⟨⟨hp.below.os, hp.below.tape, hp.below.output, hp.below.size, fun k hk _ => hp.below.block k hk (fun h => h)⟩, fun i x hi => (hp.objs i x hi).move (fun _ _ => rfl) (fun _ _ => rfl) hk ⟨fun _ _ h => h, fun _ _ _ => rfl, fun _ _ _ _ h => h⟩, hp.disj, fun i x k hi hk => .inl ((hp.own i x k hi hk).elim id False.elim), fun i u x hu hi hf => ?_⟩
    change fixO φ [] i = some u at hu
    unfold fixO at hu
    split at hu <;> cases hu
  · exact hr.move (fun _ _ => rfl) (fun k ⟨k1, k2, k3⟩ => ⟨k1.elim .inl (fun h => .inr (h.elim .inl False.elim)), k2, k3⟩) ⟨fun _ _ h => h, fun _ _ _ => rfl, fun _ _ _ _ h => h⟩
def AV.roDL : List AV → Bool
  | [] => true
  | a :: r => a.roD && AV.roDL r
theorem roDL_mem : ∀ (cs : List AV), AV.roDL cs = true → ∀ a ∈ cs, a.roD = true
  | [], _, a, h => by cases h
  | b :: r, h, a, ha => by
    simp only [AV.roDL, Bool.and_eq_true] at h
    rcases List.mem_cons.1 ha with rfl | ha
    · exact h.1
    · exact roDL_mem r h.2 a ha
theorem callsS {f : FuncId} {ins : List AV} {ra : AV} {L : List (Nat × Obj)} (hS : Spec P f ins ra L) (hE : Enters P C s o f ins) (hro : AV.roDL ins = true) : CallsTo P C s o [] ra L := by
  intro ψ φ a w hF
  obtain ⟨vs, hrun, hsz, hvs⟩ := hE ψ φ a w hF
  exact ⟨f, vs, hrun w, callsS_of (hS w 0 (okS C ψ s.objs w) (fun k hk => hk.2.1) vs hsz (fun j b u hb hu => (hvs j b u hb hu).ro_deep (roDL_mem ins hro b (List.mem_of_getElem? hb))))⟩
mutual
theorem jm_nil (G : List Nat) : ∀ a : AV, AV.jm [] G a = a
  | .own j p => by simp [AV.jm]
  | .box j f => by simp [AV.jm]
  | .oref j q a b c => by simp [AV.jm]
  | .part j q a b c => by simp [AV.jm]
  | .agg cs => by rw [AV.jm, jmL_nil G cs]
  | .tup cs => by rw [AV.jm, jmL_nil G cs]
  | .clo g nf cs => by rw [AV.jm, jmL_nil G cs]
  | .junk => rfl
  | .val v => rfl
  | .sl a b => rfl
  | .ref cs => rfl
theorem jmL_nil (G : List Nat) : ∀ cs : List AV, AV.jmL [] G cs = cs
  | [] => rfl
  | a :: t => by rw [AV.jmL, jm_nil G a, jmL_nil G t]
end
theorem jmE_nil (G : List Nat) : ∀ E, jmE [] G E = E
  | [] => rfl
  | (t, a) :: r => by rw [jmE, jm_nil, jmE_nil G r]
theorem jmO_nil (G : List Nat) : ∀ O, jmO [] G O = O
  | [] => rfl
  | (j, .tree t) :: r => by simp only [jmO, List.elem_nil, cond_false, jmB]; rw [jmO_nil G r]
  | (j, .mp t) :: r => by simp only [jmO, List.elem_nil, cond_false, jmB]; rw [jmO_nil G r]
  | (j, .box T cs) :: r => by simp only [jmO, List.elem_nil, cond_false, jmB]; rw [jmO_nil G r, jmL_nil]
/-- A call that is lent nothing. -/
theorem op_callE {ra : AV} {L : List (Nat × Obj)} {d : Nat} (hcall : CallsTo P C s o [] ra L) (hd : o.dst = some d) (hn : d < C.n) (hN : okN d L = true) (hcl : clearM s.objs d [] L = true) : OpD P C [] o s ⟨(d, AV.sm d ra) :: s.env, smO d L ++ s.objs⟩ := by
  have h := op_callM hcall trivial rfl hd hn hN hcl
  rwa [show keys ([] : List (Nat × Obj)) = [] from rfl, jmE_nil, jmO_nil] at h

/-! ### 46. Arguments that are borrowed: read during the call alone -/
mutual
/-- Nothing of a value is read in memory but what is new. -/
def AV.pl : AV → Bool
  | .sl _ _ => false
  | .ref _ => false
  | .agg cs => AV.plL cs
  | .tup cs => AV.plL cs
  | .clo _ _ cs => AV.plL cs
  | _ => true
def AV.plL : List AV → Bool
  | [] => true
  | a :: r => a.pl && AV.plL r
end
theorem plL_mem : ∀ (cs : List AV), AV.plL cs = true → ∀ a ∈ cs, a.pl = true
  | [], _, a, h => by cases h
  | b :: r, h, a, ha => by
    simp only [AV.plL, Bool.and_eq_true] at h
    rcases List.mem_cons.1 ha with rfl | ha
    · exact h.1
    · exact plL_mem r h.2 a ha
theorem RO.plain {w : World} {ok ok1 : Nat → Prop} {a : AV} {v : Value} (h : RO w ok a v) (hp : a.pl = true) : RO w ok1 a v := by
  induction h with
  | junk v => exact .junk v
  | val v => exact .val v
  | agg cs vs hl _ ih => exact .agg cs vs hl (fun j a u ha hu => ih j a u ha hu (plL_mem cs hp a (List.mem_of_getElem? ha)))
  | tup cs vs hl _ ih => exact .tup cs vs hl (fun j a u ha hu => ih j a u ha hu (plL_mem cs hp a (List.mem_of_getElem? ha)))
  | clo g nf cs vf vc hl hn _ ih => exact .clo g nf cs vf vc hl hn (fun j a u ha hu => ih j a u ha hu (plL_mem cs hp a (List.mem_of_getElem? ha)))
  | slNil => cases hp
  | sl => cases hp
  | ref => cases hp
theorem Rep.plain {w : World} {ok ok1 : Nat → Prop} {ids : Nat → List Nat → Prop} {ψ : Nat → List Nat} {φ : Nat → Value} {a : AV} {v : Value} (h : Rep w ok ids ψ φ a v) (hp : a.pl = true) : Rep w ok1 ids ψ φ a v := by
  induction h with
  | ro h => exact .ro (h.plain hp)
  | own i p v h ha => exact .own i p v h ha
  | box i off b h hb => exact .box i off b h hb
  | oref i p sz j c g n cap h ha => exact .oref i p sz j c g n cap h ha
  | agg cs vs hl _ ih => exact .agg cs vs hl (fun j a u ha hu => ih j a u ha hu (plL_mem cs hp a (List.mem_of_getElem? ha)))
  | tup cs vs hl _ ih => exact .tup cs vs hl (fun j a u ha hu => ih j a u ha hu (plL_mem cs hp a (List.mem_of_getElem? ha)))
  | clo g nf cs vf vc hl hn _ ih => exact .clo g nf cs vf vc hl hn (fun j a u ha hu => ih j a u ha hu (plL_mem cs hp a (List.mem_of_getElem? ha)))
  | part i p sz l n m cap A h ha hl hn hm => exact .part i p sz l n m cap A h ha hl hn hm
inductive Tr.Pl : Tr → Prop
  | leaf (e sz : Nat) (xs : List (List AV)) (h : ∀ x ∈ xs, AV.plL x = true) : Tr.Pl (.leaf e sz xs)
  | node (e : Nat) (ts : List Tr) (h : ∀ t ∈ ts, Tr.Pl t) : Tr.Pl (.node e ts)
theorem TreeAt.plain {w : World} {B : Nat} {ok ok1 : Nat → Prop} {t : Tr} {v : Value} {fp : List Nat} (h : TreeAt w B ok t v fp) (hp : t.Pl) : TreeAt w B ok1 t v fp := by
  induction h with
  | leaf e sz xs v vs ho hf =>
    cases hp with
    | leaf _ _ _ hp => exact .leaf e sz xs v vs ho ⟨hf.len, hf.one, hf.sz_, fun j x c a hx ha => let ⟨u, hu, hr⟩ := hf.at_ j x c a hx ha; ⟨u, hu, hr.plain (plL_mem x (hp x (List.mem_of_getElem? hx)) a (List.mem_of_getElem? ha))⟩⟩
  | rv sz xs v hr => cases hp
  | node e ts v vs fps ho hl h hnd ih =>
    cases hp with
    | node _ _ hp => exact .node e ts v vs fps ho hl (fun j t u f h1 h2 h3 => ih j t u f h1 h2 h3 (hp t (List.mem_of_getElem? h1))) hnd
def Obj.Pl : Obj → Prop
  | .tree t => t.Pl
  | .box _ cs => AV.plL cs = true
  | .mp _ => True
def allPl : List (Nat × Obj) → Prop
  | [] => True
  | (_, o) :: r => o.Pl ∧ allPl r
theorem allPl_lk {i : Nat} {o : Obj} : ∀ {L : List (Nat × Obj)}, allPl L → lk i L = some o → o.Pl
  | [], _, h => by cases h
  | (k, b) :: r, hs, h => by
    rw [lk_cons] at h
    by_cases e : k = i
    · rw [if_pos e] at h
      rw [← Option.some.inj h]
      exact hs.1
    · rw [if_neg e] at h
      exact allPl_lk hs.2 h
/-- What is lent to be read. -/
inductive View (s : AS) : AV → AV → Prop
  | ro (a : AV) (h : a.roD = true) : View s a a
  | own (i : Nat) (p : List Nat) (t t' : Tr) (b : AV) (hi : lk i s.objs = some (.tree t)) (hp : t.get p = some t') (hb : t'.ro = b) : View s (.own i p) b
  | box (i off T : Nat) (cs es ds : List AV) (hi : lk i s.objs = some (.box T cs)) (hl : cs.length = es.length) (h : ∀ (j : Nat) a b, cs[j]? = some a → es[j]? = some b → View s a b) (hb : es.drop off = ds) : View s (.box i off) (.ref ds)
  | nil (sz : Nat) : View s (.val (.slice none 0 0)) (.sl sz [])
  | agg (cs vs : List AV) (hl : cs.length = vs.length) (h : ∀ (j : Nat) a b, cs[j]? = some a → vs[j]? = some b → View s a b) : View s (.agg cs) (.agg vs)
  | part (i : Nat) (p : List Nat) (t : Tr) (e sz l n : Nat) (xs : List (List AV)) (hi : lk i s.objs = some (.tree t)) (hp : t.get p = some (.leaf e sz xs)) (ys : List (List AV)) (hb : (xs.take n).drop l = ys) : View s (.part i p sz l n) (.sl sz ys)
inductive ViewL (s : AS) : List AV → List AV → Prop
  | nil : ViewL s [] []
  | cons {a b : AV} {r t : List AV} (h : View s a b) (hr : ViewL s r t) : ViewL s (a :: r) (b :: t)
theorem ViewL.len {s : AS} {l r : List AV} (h : ViewL s l r) : l.length = r.length := by
  induction h with
  | nil => rfl
  | cons _ _ ih => simp [ih]
theorem ViewL.get {s : AS} {l r : List AV} (h : ViewL s l r) : ∀ (j : Nat) b, r[j]? = some b → ∃ a, l[j]? = some a ∧ View s a b := by
  induction h with
  | nil => intro j b h; simp at h
  | cons h _ ih =>
    intro j b hb
    cases j with
    | zero =>
      simp only [List.getElem?_cons_zero, Option.some.injEq] at hb
      subst hb
      exact ⟨_, rfl, h⟩
    | succ j => exact ih j b (by simpa using hb)
theorem View.ro_at {ψ : Nat → List Nat} {φ : Nat → Value} {a : Act} {w : World} (hF : SimF C ψ φ s a w) {x b : AV} (h : View s x b) : ∀ {v : Value}, Rep w (okS C ψ s.objs w) (idsS s.objs) ψ φ x v → RO w (fun k => k < w.heap.size ∧ (C.ok0 k ∨ C.own k)) b v := by
  have hk : ∀ k, okS C ψ s.objs w k → k < w.heap.size ∧ (C.ok0 k ∨ C.own k) := fun k hk => ⟨hk.2.1, hk.1⟩
  induction h with
  | ro _ h => intro v hr; exact (hr.ro_deep h).move (fun _ _ => rfl) hk
  | own i p t t' b hi hp hb =>
    intro v hr
    subst hb
    obtain ⟨ha, _⟩ := hr.own_inv
    obtain ⟨v', fp', h3, h4, h5⟩ := TreeAt.get (hF.hp.objs i _ hi) hp
    have e := ha.same h3
    subst e
    exact h4.ro hk (fun k hk => ⟨(hF.hp.lt hi (h5 k hk)).2, .inr (hF.hp.lt hi (h5 k hk)).1⟩)
  | box i off T cs es ds hi hl _ hb ih =>
    intro v hr
    subst hb
    obtain ⟨b, hb, e, _⟩ := hr.box_inv
    have hobj := hF.hp.objs i _ hi
    rw [hb] at hobj
    obtain ⟨hbf, us, hus⟩ := box_cells hobj
    rw [e]
    have hcs : ∀ (c : Nat) bv, es[c]? = some bv → ∃ av, cs[c]? = some av := fun c bv hc => ⟨_, List.getElem?_eq_getElem (by rw [hl]; exact (List.getElem?_eq_some_iff.1 hc).1)⟩
    have h0 : RO w (fun k => k < w.heap.size ∧ (C.ok0 k ∨ C.own k)) (.ref es) (.pointer (some ⟨b, 0, none⟩)) := .ref es ⟨b, 0, none⟩ us ⟨(hF.hp.lt hi hbf).2, .inr (hF.hp.lt hi hbf).1⟩ (fun c bv hc => by
      obtain ⟨av, hav⟩ := hcs c bv hc
      rw [Addr.add_lit, Nat.zero_add]
      exact ⟨(hus c av hav).1, (hus c av hav).2.1⟩) (fun c bv hc => by
      obtain ⟨av, hav⟩ := hcs c bv hc
      exact ih c av bv hav hc (hus c av hav).2.2)
    have h1 := h0.ref_drop off
    rwa [Addr.add_lit, Nat.zero_add] at h1
  | nil sz =>
    intro v hr
    cases hr with
    | ro h => cases h; exact .slNil sz
  | agg cs vs hl _ ih =>
    intro v hr
    obtain ⟨us, e, hs, hr⟩ := hr.agg_inv
    rw [e]
    refine .agg vs us (by rw [hs, hl]) (fun j b u hb hu => ?_)
    have hj : j < cs.length := by rw [hl]; exact (List.getElem?_eq_some_iff.1 hb).1
    have ha : cs[j]? = some cs[j] := List.getElem?_eq_getElem hj
    exact ih j _ b ha hb (hr j _ u ha hu)
  | part i p t e sz l n xs hi hp ys hb =>
    intro v hr
    subst hb
    cases hr with
    | ro h => cases h
    | part _ _ _ _ _ m cap A h ha hl hn hm =>
      obtain ⟨v', fp', h3, h4, h5⟩ := TreeAt.get (hF.hp.objs i _ hi) hp
      have e := ha.same h3
      subst e
      have h6 := h4.ro hk (fun k hk => ⟨(hF.hp.lt hi (h5 k hk)).2, .inr (hF.hp.lt hi (h5 k hk)).1⟩)
      rw [Tr.ro] at h6
      have h7 : m = xs.length := by cases h6 <;> rfl
      exact h6.part l n hl (by omega)
/-- A call whose arguments are read during the call alone. -/
theorem callsB {f : FuncId} {ins vw : List AV} {ra : AV} {L : List (Nat × Obj)} (hS : Spec P f vw ra L) (hE : Enters P C s o f ins) (hv : ViewL s ins vw) (hpl : ra.pl = true) (hL : allPl L) : CallsTo P C s o [] ra L := by
  intro ψ φ a w hF
  obtain ⟨vs, hrun, hsz, hvs⟩ := hE ψ φ a w hF
  refine ⟨f, vs, hrun w, callsS_of ?_⟩
  refine (hS w 0 (fun k => k < w.heap.size ∧ (C.ok0 k ∨ C.own k)) (fun k hk => hk.1) vs (by rw [hsz, hv.len]) (fun j b u hb hu => ?_)).mono (fun e w' ⟨v, ψc, φc, he, hp, hr⟩ => ⟨v, ψc, φc, he, ?_, hr.plain hpl⟩)
  · obtain ⟨x, hx, hxv⟩ := hv.get j b hb
    exact hxv.ro_at hF (hvs j x u hx hu)
  · refine ⟨hp.below, fun i x hi => ?_, hp.disj, hp.own, hp.fix⟩
    have h1 := hp.objs i x hi
    have h2 := allPl_lk hL hi
    cases x with
    | tree t => exact TreeAt.plain h1 h2
    | mp ks => exact h1
    | box T cs =>
      obtain ⟨b, cur, e3, e4, hB, hc, hs, h1', hr'⟩ := h1
      exact ⟨b, cur, e3, e4, hB, hc, hs, h1', fun q av u ha hu => (hr' q av u ha hu).plain (plL_mem cs h2 av (List.mem_of_getElem? ha))⟩
end
end Go.Proofs.YtmiijpobhajfmaaGreat.J
namespace Go.Proofs.YtmiijpobhajfmaaGreat.J
open Go Go.RowKit
set_option linter.unusedVariables false
set_option linter.unusedSimpArgs false
section
variable {P : Program} {C : Ctx} {s : AS} {o : Oper}

/-! ### 47. Maps with values true -/
theorem op_makeMap {T d : Nat} (i : Nat) (ho : o.op = .makeMap T none) (hd : o.dst = some d) (hn : d < C.n) (hi : lk i s.objs = none) (h2m : Nat.ble 2000000 i = false := by exact rfl) : OpD P C [] o s ⟨(d, .own i []) :: s.env, (i, .mp []) :: s.objs⟩ :=
  OpD.newI hd hn hi (nofix h2m) rfl (fun ψ φ a w hF => ⟨.map (some w.heap.size), w.alloc (.map #[] 0), [w.heap.size], by simp [execOp, ho, Instr.makeMap, run_newObj_alloc], below_alloc _ _, fun k hk => by simp at hk; omega,
    fun ok ids ψ' φ' _ _ => ⟨w.heap.size, #[], 0, rfl, rfl, Nat.zero_le _, heap_alloc_new w _, rfl⟩, fun ok ids ψ' φ' h1 h2 => .own i [] _ h1 h2.symm⟩)
/-- The key of two numbers. -/
def kP (p : Int × Int) : Value := .agg #[.int .i64 p.1, .int .i64 p.2]
/-- A type of two numbers. -/
def Is2 (P : Program) (K : TypeId) : Prop := ∃ E, P.underlying K = some (.array 2 E) ∧ P.underlying E = some (.int .i64) ∧ (P.info? E).map (·.size) = some 1
theorem run_part_int {E : TypeId} (hE : P.underlying E = some (.int .i64)) (cs : Array Value) (off : Nat) (v : Value) (h : cs[off]? = some v) (w : World) : (part E cs off).run P w = .ok v w := by
  simp [part, isAgg, run_underlying hE, h]
theorem run_equalIn2 {K : TypeId} (hK : Is2 P K) (p q : Int × Int) (w : World) (n : Nat) : (Op.equalIn (n + 2) K (kP p) (kP q)).run P w = .ok (decide (p = q)) w := by
  obtain ⟨E, h1, h2, h3⟩ := hK
  obtain ⟨a, b⟩ := p
  obtain ⟨c, d⟩ := q
  have e0 : ∀ x y : Int, (part E #[Value.int .i64 x, Value.int .i64 y] 0).run P w = .ok (.int .i64 x) w := fun x y => run_part_int h2 _ 0 _ rfl w
  have e1 : ∀ x y : Int, (part E #[Value.int .i64 x, Value.int .i64 y] 1).run P w = .ok (.int .i64 y) w := fun x y => run_part_int h2 _ 1 _ rfl w
  have eqq : ∀ x y : Int, (Op.equalIn (n + 1) E (.int .i64 x) (.int .i64 y)).run P w = .ok (x == y) w := fun x y => by simp [Op.equalIn, run_underlying h2]
  have hsz : (sizeOf E).run P w = .ok 1 w := run_sizeOf' h3 w
  have hr : (List.range' 0 2 : List Nat) = [0, 1] := rfl
  rw [Op.equalIn]
  simp only [kP, Sem.run_bind, run_underlying h1, Result.andThen_ok, hsz]
  by_cases c1 : a = c <;> by_cases c2 : b = d <;> simp [Std.Legacy.Range.forIn_eq_forIn_range', Std.Legacy.Range.size, hr, e0, e1, eqq, c1, c2]
theorem run_equal2 {K : TypeId} (hK : Is2 P K) (p q : Int × Int) (w : World) : (Op.equal K (kP p) (kP q)).run P w = .ok (decide (p = q)) w := run_equalIn2 hK p q w 9998
theorem run_checkKey2 {K : TypeId} (hK : Is2 P K) (p : Int × Int) (w : World) (e : Bool) (n : Nat) : (Instr.checkKey e (n + 2) K (kP p)).run P w = .ok () w := by
  obtain ⟨E, h1, h2, h3⟩ := hK
  obtain ⟨a, b⟩ := p
  have e0 : ∀ x y : Int, (part E #[Value.int .i64 x, Value.int .i64 y] 0).run P w = .ok (.int .i64 x) w := fun x y => run_part_int h2 _ 0 _ rfl w
  have e1 : ∀ x y : Int, (part E #[Value.int .i64 x, Value.int .i64 y] 1).run P w = .ok (.int .i64 y) w := fun x y => run_part_int h2 _ 1 _ rfl w
  have eqq : ∀ x : Int, (Instr.checkKey e (n + 1) E (.int .i64 x)).run P w = .ok () w := fun x => by simp [Instr.checkKey, run_underlying h2]
  have hsz : (sizeOf E).run P w = .ok 1 w := run_sizeOf' h3 w
  have hr : (List.range' 0 2 : List Nat) = [0, 1] := rfl
  rw [Instr.checkKey]
  simp only [kP, Sem.run_bind, run_underlying h1, Result.andThen_ok]
  simp [Std.Legacy.Range.forIn_eq_forIn_range', Std.Legacy.Range.size, hr, e0, e1, eqq, hsz]
theorem run_findAsking2 {K : TypeId} (hK : Is2 P K) (p : Int × Int) (w : World) : ∀ (es : List MapEntry) (ks : List (Int × Int)) (i : Nat), es.map (fun e => (e.key, e.val)) = ks.map (fun k => (kP k, .bool true)) →
    ∃ r, (Instr.findAsking K (kP p) es i).run P w = .ok r w ∧ (r.isSome = ks.contains p) ∧ ∀ x, r = some x → x.2 = .bool true
  | [], ks, i, h => by
    have : ks = [] := by simpa using h.symm
    subst this
    exact ⟨none, by simp [Instr.findAsking], rfl, fun x h => by cases h⟩
  | e :: es, [], i, h => by simp at h
  | e :: es, k :: ks, i, h => by
    simp only [List.map_cons, List.cons.injEq, Prod.mk.injEq] at h
    obtain ⟨⟨h1, h2⟩, h3⟩ := h
    have heq := run_equal2 hK p k w
    by_cases c : p = k
    · subst c
      refine ⟨some (i, e.val), by simp [Instr.findAsking, h1, heq], by simp, fun x hx => ?_⟩
      rw [← Option.some.inj hx]
      exact h2
    · obtain ⟨r, e1, e2, e3⟩ := run_findAsking2 hK p w es ks (i + 1) h3
      refine ⟨r, ?_, ?_, e3⟩
      · simp [Instr.findAsking, h1, heq, c, e1]
      · rw [e2]
        have : (p == k) = false := by simpa using c
        simp [c]
theorem is2_wide {K : TypeId} (hK : Is2 P K) : (match P.underlying K with | some (.array _ _) | some (.struct _) => true | _ => false) = true := by
  obtain ⟨E, h1, _, _⟩ := hK
  rw [h1]
theorem run_getM {w : World} {r : Nat} {es : Array MapEntry} {clock : Nat} (hb : w.heap[r]? = some (.map es clock)) : (getObj r).run P w = .ok (.map es clock) w := by simp [getObj, Sem.run, hb]
theorem run_setM {w : World} {r : Nat} {es : Array MapEntry} {clock : Nat} (o : Go.Obj) (hb : w.heap[r]? = some (.map es clock)) : (setObj r o).run P w = .ok () { w with heap := w.heap.setIfInBounds r o } := by simp [setObj, Sem.run, hb]
theorem map_at {ψ : Nat → List Nat} {φ : Nat → Value} {a : Act} {w : World} (hF : SimF C ψ φ s a w) {x : Operand} {i : Nat} {ks : List Value} (hx : ev s x = some (.own i [])) (hi : lk i s.objs = some (.mp ks)) :
    ∃ b es clk, a.eval x = .map (some b) ∧ ψ i = [b] ∧ φ i = .map (some b) ∧ w.heap[b]? = some (.map es clk) ∧ es.toList.map (fun e => (e.key, e.val)) = ks.map (fun k => (k, .bool true)) := by
  obtain ⟨b, es, clk, e1, e2, _, e3, e4⟩ := hF.hp.objs i _ hi
  have e0 : a.eval x = φ i := (hF.ev_own hx).1
  exact ⟨b, es, clk, by rw [e0, e1], e2, e1, e3, e4⟩
theorem agg2_eval {ψ : Nat → List Nat} {φ : Nat → Value} {a : Act} {w : World} (hF : SimF C ψ φ s a w) {y : Operand} {p : Int × Int} (hy : ev s y = some (.agg [.val (.int .i64 p.1), .val (.int .i64 p.2)])) : a.eval y = kP p := by
  obtain ⟨vs, e, hs, hr⟩ := (hF.ev hy).agg_inv
  have hs' : vs.size = 2 := hs
  have g : ∀ j (hj : j < 2) (v : Value), [AV.val (.int .i64 p.1), .val (.int .i64 p.2)][j]? = some (.val v) → vs[j] = v := fun j hj v h => by
    have h1 := hr j (.val v) (vs[j]'(by omega)) h (Array.getElem?_eq_getElem (by omega))
    generalize vs[j]'(by omega) = u at h1
    cases h1 with
    | ro h => cases h; rfl
  have h0 := g 0 (by omega) _ rfl
  have h1 := g 1 (by omega) _ rfl
  rw [e]
  unfold kP
  congr 1
  apply Array.ext
  · rw [hs']; rfl
  · intro j hj1 hj2
    have hj3 : j < 2 := by omega
    match j, hj3 with
    | 0, _ => exact h0
    | 1, _ => exact h1
theorem run_zero_of {E : TypeId} {z : Value} (h : (P.info? E).bind (·.zero) = some z) (w : World) : (zeroValue E).run P w = .ok z w := by
  cases hi : P.info? E with
  | none => rw [hi] at h; cases h
  | some i =>
    rw [hi] at h
    simp only [Option.bind_some] at h
    simp [zeroValue, typeInfo, hi, h]
theorem p_lookup {T K E i : Nat} {x y : Operand} {ks : List (Int × Int)} {p : Int × Int} (ho : o.op = .lookup T x y false) (hT : P.underlying T = some (.map K E)) (hK : Is2 P K) (hz : (P.info? E).bind (·.zero) = some (.bool false)) (hx : ev s x = some (.own i [])) (hi : lk i s.objs = some (.mp (ks.map kP))) (hy : ev s y = some (.agg [.val (.int .i64 p.1), .val (.int .i64 p.2)])) :
    PureR P C (some [i]) o s (.val (.bool (ks.contains p))) := fun ψ φ a w hF => by
  obtain ⟨b, es, clk, e1, e2, e3, e4, e5⟩ := map_at hF hx hi
  have e6 := agg2_eval hF hy
  refine ⟨.bool (ks.contains p), fun w1 hb => ?_, .ro (.val _)⟩
  have hg : w1.heap[b]? = some (.map es clk) := by rw [hb.block b (Array.getElem?_eq_some_iff.1 e4).1 (.inr ⟨i, _, by simp, hi, by rw [e2]; simp⟩)]; exact e4
  obtain ⟨r, f1, f2, f3⟩ := run_findAsking2 hK p w1 es.toList ks 0 (by rw [e5]; simp)
  have f4 : (Instr.findKey K (kP p) es.toList).run P w1 = .ok r w1 := (run_findKey_eq w1 (is2_wide hK) (kP p) es.toList).trans f1
  have f5 : ∀ e, (Instr.checkKey e 10000 K (kP p)).run P w1 = .ok () w1 := fun e => run_checkKey2 hK p w1 e 9998
  have f6 := run_zero_of hz w1
  have key : (Instr.lookup T (.map (some b)) (kP p) false).run P w1 = .ok (.bool (ks.contains p)) w1 := by
    rw [← f2]
    cases r with
    | none => simp [Instr.lookup, run_underlying hT, run_getM hg, f4, f5, f6]
    | some q =>
      obtain ⟨i1, v⟩ := q
      have h7 := f3 _ rfl
      simp only at h7
      simp [Instr.lookup, run_underlying hT, run_getM hg, f4, f5, h7]
  simp only [execOp, ho, e1, e6, Sem.run_bind, key, Result.andThen_ok, Sem.run_pure]
/-- A new key. -/
theorem op_mapSet {T K E i : Nat} {x y z : Operand} {ks : List (Int × Int)} {p : Int × Int} (ho : o.op = .mapUpdate T x y z) (hd : o.dst = none) (hT : P.underlying T = some (.map K E)) (hK : Is2 P K) (hx : ev s x = some (.own i [])) (hi : lk i s.objs = some (.mp (ks.map kP))) (hy : ev s y = some (.agg [.val (.int .i64 p.1), .val (.int .i64 p.2)]))
    (hz : ev s z = some (.val (.bool true))) (hnew : ks.contains p = false) : OpD P C [i] o s ⟨s.env, (i, .mp ((ks ++ [p]).map kP)) :: rm i s.objs⟩ := by
  refine OpD.upd hd hi (fun _ h => h) rfl ?_
  intro ψ φ a w hF
  obtain ⟨b, es, clk, e1, e2, e3, e4, e5⟩ := map_at hF hx hi
  have e6 := agg2_eval hF hy
  have e7 : a.eval z = .bool true := hF.ev_val hz
  obtain ⟨r, f1, f2, f3⟩ := run_findAsking2 hK p w es.toList ks 0 (by rw [e5]; simp)
  have hr : r = none := by
    rw [hnew] at f2
    cases r with
    | none => rfl
    | some x => cases f2
  subst hr
  have f4 : (Instr.findKey K (kP p) es.toList).run P w = .ok none w := (run_findKey_eq w (is2_wide hK) (kP p) es.toList).trans f1
  have f5 : ∀ e, (Instr.checkKey e 10000 K (kP p)).run P w = .ok () w := fun e => run_checkKey2 hK p w e 9998
  have hlt := (Array.getElem?_eq_some_iff.1 e4).1
  have key : (Instr.mapUpdate T (.map (some b)) (kP p) (.bool true)).run P w = .ok () { w with heap := w.heap.setIfInBounds b (.map (es.push { key := kP p, val := .bool true, born := clk }) (clk + 1)) } := by
    simp [Instr.mapUpdate, run_underlying hT, run_getM e4, f4, f5, run_setM _ e4]
  refine ⟨{ w with heap := w.heap.setIfInBounds b (.map (es.push { key := kP p, val := .bool true, born := clk }) (clk + 1)) }, by simp only [execOp, ho, e1, e6, e7, Sem.run_bind, key, Result.andThen_ok, Sem.run_pure], ⟨rfl, rfl, rfl, by simp, fun k hk hn => ?_⟩, fun q v hq ha => ?_, fun ok ids h2 h3 => ?_⟩
  · simp only [Array.getElem?_setIfInBounds]
    rw [if_neg (fun e => hn (by rw [e2, e]; simp))]
  · obtain rfl : q = [] := hq
    exact ha
  · rw [e3]
    refine ⟨b, _, _, rfl, e2, Nat.zero_le _, by simp only [Array.getElem?_setIfInBounds, if_true]; rw [if_pos hlt], ?_⟩
    simp only [Array.toList_push, List.map_append, List.map_cons, List.map_nil, e5, List.map_map]

/-! ### 48. A new name with a new look -/
theorem Le_ren2 (C : Ctx) (s : AS) (i j : Nat) {t t2 : Tr} (hi : lk i s.objs = some (.tree t)) (hj : lk j s.objs = none) (h2m : fixable j (.tree t2) = true → C.fix j = none)
    (ht : ∀ w ok v fp, TreeAt w 0 ok t v fp → ∃ fp2 : List Nat, (∀ k ∈ fp2, k ∈ fp) ∧ ∀ ok1 : Nat → Prop, (∀ k, ok k → ok1 k) → (∀ k ∈ fp, k ∉ fp2 → ok1 k) → TreeAt w 0 ok1 t2 v fp2) : Le C s ⟨fzE i (.own j []) s.env, (j, .tree t2) :: fzO i (.own j []) s.objs⟩ := by
  rintro a w ⟨ψ, φ, hF⟩
  obtain ⟨fp2, hfp, hnew⟩ := ht w _ _ _ (hF.hp.objs i _ hi)
  have hne0 : ∀ q oq, lk q s.objs = some oq → q ≠ j := by
    rintro q oq hq rfl
    rw [hj] at hq
    cases hq
  have hij : i ≠ j := hne0 i _ hi
  have hsub : ∀ q oq, q ≠ j → lk q ((j, .tree t2) :: fzO i (.own j []) s.objs) = some oq → q ≠ i ∧ ∃ x, lk q s.objs = some x ∧ fzB i (.own j []) x = oq := by
    intro q oq hqj hq
    rw [lk_cons, if_neg (Ne.symm hqj), lk_fzO] at hq
    by_cases e : i = q
    · rw [if_pos e] at hq; cases hq
    · rw [if_neg e, Option.map_eq_some_iff] at hq
      exact ⟨Ne.symm e, hq⟩
  have hmv : Mv w w (fun q p => idsS s.objs q p ∧ q ≠ i) (idsS ((j, .tree t2) :: fzO i (.own j []) s.objs)) ψ (ups ψ j fp2) φ (ups φ j (φ i)) := Mv.of_same (by
    rintro q p ⟨⟨x, hx, hp⟩, hne⟩
    exact ⟨fzB i (.own j []) x, by rw [lk_cons, if_neg (Ne.symm (hne0 q x hx)), lk_fzO, if_neg (Ne.symm hne), hx]; rfl, has_fzB.2 hp⟩) (by
    rintro q p ⟨⟨x, hx, hp⟩, hne⟩
    exact ⟨ups_ne _ _ (hne0 q x hx), ups_ne _ _ (hne0 q x hx)⟩) (fun _ _ _ _ _ => rfl)
  have hk : ∀ k, okS C ψ s.objs w k → okS C (ups ψ j fp2) ((j, .tree t2) :: fzO i (.own j []) s.objs) w k := fun k ⟨k1, k2, k3⟩ => ⟨k1, k2, fun q oq hq => by
    by_cases e : q = j
    · subst e
      rw [ups_self]
      exact fun h => k3 i _ hi (hfp k h)
    · rw [ups_ne _ _ e]
      obtain ⟨_, x, hx, _⟩ := hsub q oq e hq
      exact k3 q x hx⟩
  have hk2 : ∀ k ∈ ψ i, k ∉ fp2 → okS C (ups ψ j fp2) ((j, .tree t2) :: fzO i (.own j []) s.objs) w k := fun k hk hn => ⟨.inr (hF.hp.lt hi hk).1, (hF.hp.lt hi hk).2, fun q oq hq => by
    by_cases e : q = j
    · subst e
      rw [ups_self]
      exact hn
    · rw [ups_ne _ _ e]
      obtain ⟨hne, x, hx, _⟩ := hsub q oq e hq
      exact fun h => hne (hF.hp.disj q i x _ k hx hi h hk)⟩
  have hrep : ∀ a u, Rep w (okS C ψ s.objs w) (idsS s.objs) ψ φ a u → Rep w (okS C (ups ψ j fp2) ((j, .tree t2) :: fzO i (.own j []) s.objs) w) (idsS ((j, .tree t2) :: fzO i (.own j []) s.objs)) (ups ψ j fp2) (ups φ j (φ i)) (AV.fz i (.own j []) a) u := by
    intro a u h
    induction h with
    | ro h => exact .ro ((h.move (fun _ _ => rfl) hk).fz i _)
    | own q p v h ha =>
      simp only [AV.fz]
      cases e : Nat.beq q i with
      | true =>
        have := Nat.eq_of_beq_eq_true e
        subst this
        cases p with
        | nil =>
          have : v = φ q := ha
          subst this
          exact .own j [] _ (idsS_root _ _ _) (by rw [ups_self, ups_self]; rfl)
        | cons q p => exact .ro (.junk _)
      | false => exact .own q p v (hmv.id_ q p ⟨h, beq_false_ne e⟩) (by rw [hmv.val q p ⟨h, beq_false_ne e⟩]; exact hmv.at_ q p v ⟨h, beq_false_ne e⟩ ha)
    | box q off b h hb =>
      simp only [AV.fz]
      cases e : Nat.beq q i with
      | true => exact .ro (.junk _)
      | false => exact .box q off b (hmv.id_ q [] ⟨h, beq_false_ne e⟩) (by rw [hmv.val q [] ⟨h, beq_false_ne e⟩]; exact hb)
    | oref q p sz c d g n cap h ha =>
      simp only [AV.fz]
      cases e : Nat.beq q i with
      | true => exact .ro (.junk _)
      | false => exact .oref q p sz c d g n cap (hmv.id_ q p ⟨h, beq_false_ne e⟩) (by rw [hmv.val q p ⟨h, beq_false_ne e⟩]; exact hmv.at_ q p _ ⟨h, beq_false_ne e⟩ ha)
    | part q p sz l n m cap A h ha hl hn hm =>
      simp only [AV.fz]
      cases e : Nat.beq q i with
      | true =>
        rw [cond_true]
        unfold ptA
        split
        · rename_i h1; cases h1
        · exact .ro (.junk _)
      | false => exact .part q p sz l n m cap A (hmv.id_ q p ⟨h, beq_false_ne e⟩) (by rw [hmv.val q p ⟨h, beq_false_ne e⟩]; exact hmv.at_ q p _ ⟨h, beq_false_ne e⟩ ha) hl hn hm
    | agg cs vs hl _ ih =>
      simp only [AV.fz, fzL_map]
      refine .agg _ vs (by simpa using hl) (fun j a u ha hu => ?_)
      rw [List.getElem?_map, Option.map_eq_some_iff] at ha
      obtain ⟨b, hb, rfl⟩ := ha
      exact ih j b u hb hu
    | tup cs vs hl _ ih =>
      simp only [AV.fz, fzL_map]
      refine .tup _ vs (by simpa using hl) (fun j a u ha hu => ?_)
      rw [List.getElem?_map, Option.map_eq_some_iff] at ha
      obtain ⟨b, hb, rfl⟩ := ha
      exact ih j b u hb hu
    | clo g nf cs vf vc hl hn _ ih =>
      simp only [AV.fz, fzL_map]
      refine .clo g nf _ vf vc (by simpa using hl) hn (fun j a u ha hu => ?_)
      rw [List.getElem?_map, Option.map_eq_some_iff] at ha
      obtain ⟨b, hb, rfl⟩ := ha
      exact ih j b u hb hu
  refine ⟨ups ψ j fp2, ups φ j (φ i), hF.defers, hF.size, ⟨hF.hp.below, fun q oq hq => ?_, fun q q' oq oq' k hq hq' h1 h2 => ?_, fun q oq k hq h1 => ?_, fun q u oq hu hq hf => ?_⟩, fun t' av ht => ?_⟩
  · by_cases e : q = j
    · subst e
      rw [lk_cons, if_pos rfl] at hq
      obtain rfl := Option.some.inj hq
      rw [ups_self, ups_self]
      exact hnew _ hk hk2
    · obtain ⟨_, x, hx, rfl⟩ := hsub q oq e hq
      rw [ups_ne _ _ e, ups_ne _ _ e]
      exact boxSim (AV.fz i (.own j [])) (fzB i (.own j [])) (fun T cs => by simp [fzB, fzL_map]) (fun _ => rfl) (fun _ => rfl) (hF.hp.objs q x hx) (fun _ _ => rfl) (fun _ _ => rfl) hk hrep
  · by_cases e : q = j
    · by_cases e' : q' = j
      · rw [e, e']
      · rw [e, ups_self] at h1
        rw [ups_ne _ _ e'] at h2
        obtain ⟨hne, x, hx, _⟩ := hsub q' oq' e' hq'
        exact absurd (hF.hp.disj q' i x _ k hx hi h2 (hfp k h1)) hne
    · rw [ups_ne _ _ e] at h1
      obtain ⟨hne, x, hx, _⟩ := hsub q oq e hq
      by_cases e' : q' = j
      · rw [e', ups_self] at h2
        exact absurd (hF.hp.disj q i x _ k hx hi h1 (hfp k h2)) hne
      · rw [ups_ne _ _ e'] at h2
        obtain ⟨_, x', hx', _⟩ := hsub q' oq' e' hq'
        exact hF.hp.disj q q' x x' k hx hx' h1 h2
  · by_cases e : q = j
    · rw [e, ups_self] at h1
      exact hF.hp.own i _ k hi (hfp k h1)
    · rw [ups_ne _ _ e] at h1
      obtain ⟨_, x, hx, _⟩ := hsub q oq e hq
      exact hF.hp.own q x k hx h1
  · by_cases e : q = j
    · subst e
      rw [lk_cons, if_pos rfl] at hq
      obtain rfl := Option.some.inj hq
      rw [h2m hf] at hu
      cases hu
    · rw [ups_ne _ _ e]
      obtain ⟨_, x, hx, rfl⟩ := hsub q oq e hq
      exact hF.hp.fix q u x hu hx (by rw [← fixable_fzB (i := i) (r := .own j [])]; exact hf)
  · rw [lk_fzE, Option.map_eq_some_iff] at ht
    obtain ⟨x, hx, rfl⟩ := ht
    exact ⟨(hF.env t' x hx).1, hrep x _ (hF.env t' x hx).2⟩
/-- The rows inside a row are only read from here on. -/
theorem Le_kids (C : Ctx) (s : AS) (i j : Nat) {e : Nat} {ts : List Tr} (hi : lk i s.objs = some (.tree (.node e ts))) (hj : lk j s.objs = none) (h2m : Nat.blt j 2000000 = true := by exact rfl) : Le C s ⟨fzE i (.own j []) s.env, (j, .tree (.leaf e 1 (ts.map fun t => [t.ro]))) :: fzO i (.own j []) s.objs⟩ := by
  refine Le_ren2 C s i j hi hj (fun h => by rw [small_tree h2m] at h; cases h) (fun w ok v fp h => ?_)
  cases h with
  | node _ _ _ vs fps ho hl hc hnd =>
    refine ⟨(blk v).toList, fun k hk => List.mem_append_left _ hk, fun ok1 h1 h2 => ?_⟩
    have hvl : vs.length = ts.length := by rw [ho.1, Nat.mul_one]
    refine .leaf e 1 _ v vs (by rw [List.length_map]; exact ho) ⟨by rw [List.length_map, Nat.mul_one]; exact hvl, fun u hu => ?_, fun x hx => ?_, fun q x c b hx hb => ?_⟩
    · obtain ⟨q, hq, hqu⟩ := List.mem_iff_getElem.1 hu
      obtain ⟨A, n, cp, e⟩ := (hc q _ u _ (List.getElem?_eq_getElem (by omega)) (by rw [List.getElem?_eq_getElem hq, hqu]) (List.getElem?_eq_getElem (by omega))).slice
      rw [e]
      rfl
    · obtain ⟨t, _, rfl⟩ := List.mem_map.1 hx
      rfl
    · rw [List.getElem?_map, Option.map_eq_some_iff] at hx
      obtain ⟨t, ht, rfl⟩ := hx
      have hq : q < ts.length := (List.getElem?_eq_some_iff.1 ht).1
      cases c with
      | zero =>
        obtain rfl : t.ro = b := by simpa using hb
        have hf1 : fps[q]? = some fps[q] := List.getElem?_eq_getElem (by omega)
        refine ⟨vs[q], by rw [Nat.mul_one, Nat.add_zero]; exact List.getElem?_eq_getElem (by omega), (hc q t _ _ ht (List.getElem?_eq_getElem (by omega)) hf1).ro h1 (fun k hk => h2 k (List.mem_append_right _ (get_flatten hf1 hk)) (fun hkb => ?_))⟩
        exact (List.nodup_append.1 hnd).2.2 k hkb k (get_flatten hf1 hk) rfl
      | succ c => simp at hb
end
end Go.Proofs.YtmiijpobhajfmaaGreat.J
namespace Go.Proofs.YtmiijpobhajfmaaGreat.J
open Go Go.RowKit
set_option linter.unusedVariables false
set_option linter.unusedSimpArgs false
section
variable {P : Program} {C : Ctx} {s : AS} {o : Oper}

/-! ### 48b. Values without memory -/
mutual
def AV.fl : AV → Bool
  | .val _ => true
  | .junk => true
  | .agg cs => AV.flL cs
  | .tup cs => AV.flL cs
  | _ => false
def AV.flL : List AV → Bool
  | [] => true
  | a :: r => a.fl && AV.flL r
end
theorem flL_mem : ∀ (cs : List AV), AV.flL cs = true → ∀ a ∈ cs, a.fl = true
  | [], _, a, h => by cases h
  | b :: r, h, a, ha => by
    simp only [AV.flL, Bool.and_eq_true] at h
    rcases List.mem_cons.1 ha with rfl | ha
    · exact h.1
    · exact flL_mem r h.2 a ha
theorem RO.flat_ {w w1 : World} {ok ok1 : Nat → Prop} {a : AV} {v : Value} (h : RO w ok a v) (hp : a.fl = true) : RO w1 ok1 a v := by
  induction h with
  | junk v => exact .junk v
  | val v => exact .val v
  | agg cs vs hl _ ih => exact .agg cs vs hl (fun j a u ha hu => ih j a u ha hu (flL_mem cs hp a (List.mem_of_getElem? ha)))
  | tup cs vs hl _ ih => exact .tup cs vs hl (fun j a u ha hu => ih j a u ha hu (flL_mem cs hp a (List.mem_of_getElem? ha)))
  | _ => cases hp
theorem Rep.flat_ {w w1 : World} {ok ok1 : Nat → Prop} {ids : Nat → List Nat → Prop} {ψ : Nat → List Nat} {φ : Nat → Value} {a : AV} {v : Value} (h : Rep w ok ids ψ φ a v) (hp : a.fl = true) : RO w1 ok1 a v := by
  induction h with
  | ro h => exact h.flat_ hp
  | agg cs vs hl _ ih => exact .agg cs vs hl (fun j a u ha hu => ih j a u ha hu (flL_mem cs hp a (List.mem_of_getElem? ha)))
  | tup cs vs hl _ ih => exact .tup cs vs hl (fun j a u ha hu => ih j a u ha hu (flL_mem cs hp a (List.mem_of_getElem? ha)))
  | _ => cases hp

/-! ### 49. A row inside a tree is handed to a function that changes it in place -/
inductive AtL (i : Nat) (p : List Nat) : List AV → List AV → Prop
  | nil : AtL i p [] []
  | ro {a : AV} {r t : List AV} (h : a.roD = true) (hr : AtL i p r t) : AtL i p (a :: r) (a :: t)
  | row {r t : List AV} (hr : AtL i p r t) : AtL i p (.own i p :: r) (.own 2000000 [] :: t)
theorem AtL.len {i : Nat} {p : List Nat} {l r : List AV} (h : AtL i p l r) : l.length = r.length := by
  induction h with
  | nil => rfl
  | ro _ _ ih => simp [ih]
  | row _ ih => simp [ih]
theorem AtL.get {i : Nat} {p : List Nat} {l r : List AV} (h : AtL i p l r) : ∀ (j : Nat) b, r[j]? = some b → ∃ a, l[j]? = some a ∧ ((a = b ∧ a.roD = true) ∨ (a = .own i p ∧ b = .own 2000000 [])) := by
  induction h with
  | nil => intro j b h; simp at h
  | ro h _ ih =>
    intro j b hb
    cases j with
    | zero =>
      simp only [List.getElem?_cons_zero, Option.some.injEq] at hb
      subst hb
      exact ⟨_, rfl, .inl ⟨rfl, h⟩⟩
    | succ j => exact ih j b (by simpa using hb)
  | row _ ih =>
    intro j b hb
    cases j with
    | zero =>
      simp only [List.getElem?_cons_zero, Option.some.injEq] at hb
      subst hb
      exact ⟨_, rfl, .inr ⟨rfl, rfl⟩⟩
    | succ j => exact ih j b (by simpa using hb)
theorem Tr.upd_self : ∀ {p : List Nat} {t t' : Tr}, t.get p = some t' → t.upd p t' = t
  | [], t, t', h => by
    simp only [Tr.get, Option.some.injEq] at h
    rw [Tr.upd, h]
  | j :: p, t, t', h => by
    cases t with
    | leaf => simp [Tr.get] at h
    | rv => simp [Tr.get] at h
    | node e ts =>
      simp only [Tr.get] at h
      cases hj : ts[j]? with
      | none => rw [hj] at h; cases h
      | some t1 =>
        rw [hj] at h
        simp only [Tr.upd, hj, Tr.upd_self h]
        congr 1
        apply List.ext_getElem?
        intro q
        rw [List.getElem?_set]
        by_cases e : j = q
        · subst e
          rw [if_pos rfl, hj, if_pos (List.getElem?_eq_some_iff.1 hj).1]
        · rw [if_neg e]
theorem op_call_at {f : FuncId} {ins ins0 : List AV} {e sz i d : Nat} {p : List Nat} {t tn : Tr} {ra : AV} {xs xs' : List (List AV)} (hS : SpecM P f [(2000000, .tree (.leaf e sz xs))] ins ra [(2000000, .tree (.leaf e sz xs'))]) (hE : Enters P C s o f ins0) (hv : AtL i p ins0 ins)
    (hi : lk i s.objs = some (.tree t)) (hp : t.get p = some (.leaf e sz xs)) (hup : t.upd p (.leaf e sz xs') = tn) (hd : o.dst = some d) (hn : d < C.n) (hfl : ra.fl = true := by exact rfl) : OpD P C [i] o s ⟨(d, ra) :: s.env, (i, .tree tn) :: rm i s.objs⟩ := by
  subst hup
  intro ψ φ a w hF
  obtain ⟨vs, hrun, hsz, hvs⟩ := hE ψ φ a w hF
  have hobj : TreeAt w 0 (okS C ψ s.objs w) t (φ i) (ψ i) := hF.hp.objs i _ hi
  obtain ⟨v', fp', h3, h4, h5⟩ := TreeAt.get hobj hp
  have hfp : fp' = (blk v').toList := by cases h4 with | leaf => rfl
  subst hfp
  have hokO : ∀ k, okS C ψ s.objs w k → okS (mkM w 0 (okS C ψ s.objs w) (fun k hk => hk.2.1) (fun _ => (blk v').toList) (fun _ => v') [(2000000, .tree (.leaf e sz xs))]) (fun _ => (blk v').toList) [(2000000, .tree (.leaf e sz xs))] w k := fun k hk => ⟨.inl hk, hk.2.1, fun _ x _ hkb => hk.2.2 i _ hi (h5 k hkb)⟩
  have hlk : ∀ j x, lk j [(2000000, Obj.tree (.leaf e sz xs))] = some x → j = 2000000 ∧ x = .tree (.leaf e sz xs) := fun j x h => by
    rw [lk_cons] at h
    by_cases c : 2000000 = j
    · rw [if_pos c] at h; exact ⟨c.symm, (Option.some.inj h).symm⟩
    · rw [if_neg c] at h; cases h
  have hp0 : Hp (mkM w 0 (okS C ψ s.objs w) (fun k hk => hk.2.1) (fun _ => (blk v').toList) (fun _ => v') [(2000000, .tree (.leaf e sz xs))]) (fun _ => (blk v').toList) (fun _ => v') [(2000000, .tree (.leaf e sz xs))] w := by
    refine ⟨Ch.refl _ _, fun j x hj => ?_, fun j j' oj oj' k hj hj' _ _ => by rw [(hlk j oj hj).1, (hlk j' oj' hj').1], fun j x k hj hk => .inr ⟨j, x, hj, hk⟩, fun j u x hu hj _ => ?_⟩
    · obtain ⟨rfl, rfl⟩ := hlk j x hj
      exact TreeAt.move h4 (fun _ _ => rfl) (fun _ _ => rfl) hokO
    · change fixO (fun _ => v') [(2000000, .tree (.leaf e sz xs))] j = some u at hu
      unfold fixO at hu
      rw [hj] at hu
      split at hu
      · exact Option.some.inj hu
      · cases hu
  unfold Oper.wp
  rw [hrun w, Oper.upon_enter]
  refine Calls.mono (hS w 0 (okS C ψ s.objs w) (fun k hk => hk.2.1) (fun _ => (blk v').toList) (fun _ => v') vs (by rw [hsz, hv.len]) hp0 (fun j b u hb hu => ?_)) (fun ed w' hq => ?_)
  · obtain ⟨x, hx, h6⟩ := hv.get j b hb
    have h7 := hvs j x u hx hu
    rcases h6 with ⟨rfl, hro⟩ | ⟨rfl, rfl⟩
    · exact .ro ((h7.ro_deep hro).move (fun _ _ => rfl) hokO)
    · obtain ⟨ha, _⟩ := h7.own_inv
      have e1 := ha.same h3
      subst e1
      exact .own 2000000 [] _ (idsS_root _ _ _) rfl
  · obtain ⟨v, ψc, φc, rfl, hpc, hrep⟩ := hq
    have hlk' : lk 2000000 [(2000000, Obj.tree (.leaf e sz xs'))] = some (.tree (.leaf e sz xs')) := by rw [lk_cons, if_pos rfl]
    have hφ : φc 2000000 = v' := hpc.fix 2000000 v' _ (by
      show fixO (fun _ => v') [(2000000, .tree (.leaf e sz xs))] 2000000 = _
      unfold fixO
      rw [if_pos (by omega), lk_cons, if_pos rfl]) hlk' (by rfl)
    have hobjc : TreeAt w' 0 (okS (mkM w 0 (okS C ψ s.objs w) (fun k hk => hk.2.1) (fun _ => (blk v').toList) (fun _ => v') [(2000000, .tree (.leaf e sz xs))]) ψc [(2000000, .tree (.leaf e sz xs'))] w') (.leaf e sz xs') v' (ψc 2000000) := by
      have := hpc.objs 2000000 _ hlk'
      rw [hφ] at this
      exact this
    have hfpc : ψc 2000000 = (blk v').toList := by
      generalize ψc 2000000 = q at hobjc
      cases hobjc with
      | leaf => rfl
    rw [hfpc] at hobjc
    have hch : Ch w w' (fun k => k ∈ (blk v').toList) := ⟨hpc.below.os, hpc.below.tape, hpc.below.output, hpc.below.size, fun k hk hno => hpc.below.block k hk (fun ⟨j, x, hj, hkj⟩ => hno hkj)⟩
    have hchi : Ch w w' (fun k => k ∈ ψ i) := ⟨hch.os, hch.tape, hch.output, hch.size, fun k hk hno => hch.block k hk (fun h => hno (h5 k h))⟩
    have hokc : ∀ ok1 : Nat → Prop, (∀ k, okS C ψ s.objs w k → ok1 k) → (∀ k, w.heap.size ≤ k → k < w'.heap.size → ok1 k) → ∀ k, okS (mkM w 0 (okS C ψ s.objs w) (fun k hk => hk.2.1) (fun _ => (blk v').toList) (fun _ => v') [(2000000, .tree (.leaf e sz xs))]) ψc [(2000000, .tree (.leaf e sz xs'))] w' k → ok1 k := by
      intro ok1 h1 h2 k ⟨k1, k2, k3⟩
      rcases k1 with k1 | k1 | ⟨j, x, hj, hkj⟩
      · exact h1 k k1
      · exact h2 k k1 k2
      · exact absurd (by rw [hfpc]; exact hkj) (k3 2000000 _ hlk')
    have hroot : ∀ q : List Nat, (∃ r, (Tr.leaf e sz xs).get q = some r) → ∃ r, (Tr.leaf e sz xs').get q = some r := fun q hq => by cases q with | nil => exact ⟨_, rfl⟩ | cons => simp [Tr.get] at hq
    have hF' : SimF C ψ φ ⟨s.env, (i, .tree (t.upd p (.leaf e sz xs'))) :: rm i s.objs⟩ a w' := by
      have hupd : ∀ ok1 : Nat → Prop, (∀ k, okS C ψ s.objs w k → ok1 k) → (∀ k, w.heap.size ≤ k → k < w'.heap.size → ok1 k) → TreeAt w' 0 ok1 (t.upd p (.leaf e sz xs')) (φ i) (ψ i) ∧ ∀ q r, t.get q = some r → ∃ u, At w (ψ i) (φ i) q u ∧ At w' (ψ i) (φ i) q u := by
        intro ok1 h1 h2
        have hl1 : TreeAt w' 0 ok1 (.leaf e sz xs') v' (blk v').toList := TreeAt.move hobjc (fun _ _ => rfl) (fun _ _ => rfl) (hokc ok1 h1 h2)
        cases hb : blk v' with
        | none =>
          rw [hb] at hch
          have hbel : Below w.heap.size w w' := hch.below (fun k _ h => by simp at h)
          have e1 : xs = [] := by
            cases h4 with
            | leaf _ _ _ _ us ho _ =>
              rcases ho.2 with ⟨_, h0⟩ | ⟨g, _, _, h, _⟩
              · exact List.eq_nil_of_length_eq_zero h0
              · rw [h] at hb; cases hb
          have e2 : xs' = [] := by
            rw [hb] at hl1
            generalize hq : (none : Option Nat).toList = q at hl1
            cases hl1 with
            | leaf _ _ _ _ us ho _ =>
              rcases ho.2 with ⟨_, h0⟩ | ⟨g, _, _, h, _⟩
              · exact List.eq_nil_of_length_eq_zero h0
              · rw [h] at hb; cases hb
          have e3 : t.upd p (.leaf e sz xs') = t := by rw [e2, ← e1]; exact Tr.upd_self hp
          rw [e3]
          refine ⟨TreeAt.move hobj (fun k hk => hbel.block k (hobj.lt k hk).2) (fun k hk => hbel.block k hk.2.1) h1, fun q r hq => ?_⟩
          obtain ⟨u, _, g1, _, _⟩ := TreeAt.get hobj hq
          exact ⟨u, g1, g1.move (fun k hk => hbel.block k (hobj.lt k hk).2)⟩
        | some g =>
          have hg2 : (blk v').toList = [g] := by rw [hb]; rfl
          rw [hg2] at hl1
          obtain ⟨_, g2, g3⟩ := TreeAt.upd hg2 (fun k hk hne => hch.block k hk (by rw [hg2]; simpa using hne)) h1 (fun hk => hk.2.2 i _ hi (h5 g (by rw [hg2]; simp))) (fun k hk => hk.2.1) hl1 hobj hp ⟨e, sz, xs, rfl⟩ h3
          exact ⟨g2, g3⟩
      refine hF.upd i (.tree t) (.tree (t.upd p (.leaf e sz xs'))) hi hchi (fun q h => Tr.get_upd hp hroot q h) rfl (fun q u hq ha => ?_) (fun ok1 ids h1 h2 _ => (hupd ok1 h1 h2).1)
      obtain ⟨r, hr⟩ := hq
      obtain ⟨u', g1, g2⟩ := (hupd (fun k => okS C ψ s.objs w k ∨ (w.heap.size ≤ k ∧ k < w'.heap.size)) (fun k h => .inl h) (fun k h1 h2 => .inr ⟨h1, h2⟩)).2 q r hr
      rw [ha.same g1]
      exact g2
    rw [hd]
    refine ⟨ψ, φ, hF'.put d ra v hn (.ro (hrep.flat_ hfl)), ⟨hchi.os, hchi.tape, hchi.output, hchi.size, fun k hk hno => hchi.block k hk (fun h => hno ⟨i, _, by simp, hi, h⟩)⟩, fun j oj hj k hk => ?_⟩
    by_cases c : i = j
    · exact .inr (.inl ⟨_, c ▸ hi, hk⟩)
    · rw [lk_cons, if_neg c, lk_rm, if_neg c] at hj
      exact .inr (.inl ⟨oj, hj, hk⟩)
end
end Go.Proofs.YtmiijpobhajfmaaGreat.J
namespace Go.Proofs.YtmiijpobhajfmaaGreat.J
open Go Go.RowKit
set_option linter.unusedVariables false
set_option linter.unusedSimpArgs false
section
variable {P : Program} {C : Ctx} {s : AS} {o : Oper}

/-! ### 50. Parts -/
theorem Rep.part_inv {w : World} {ok : Nat → Prop} {ids : Nat → List Nat → Prop} {ψ : Nat → List Nat} {φ : Nat → Value} {i sz l n : Nat} {p : List Nat} {v : Value} (h : Rep w ok ids ψ φ (.part i p sz l n) v) : ∃ m cap A, At w (ψ i) (φ i) p (.slice A m cap) ∧ ids i p ∧ l ≤ n ∧ n ≤ m ∧ m ≤ cap ∧ v = .slice (if cap = l then A else A.map (·.add (l * sz))) (n - l) (cap - l) := by
  cases h with
  | ro h => cases h
  | part _ _ _ _ _ m cap A h ha hl hn hm => exact ⟨m, cap, A, ha, h, hl, hn, hm, rfl⟩
theorem tree_slice {w : World} {B : Nat} {ok : Nat → Prop} {t : Tr} {v : Value} {fp : List Nat} (h : TreeAt w B ok t v fp) (hrow : t.row = true) : (v = .slice none 0 0 ∧ t.len = 0) ∨ ∃ g cap, v = .slice (some ⟨g, 0, none⟩) t.len cap ∧ t.len ≤ cap ∧ g ∈ fp := by
  cases h with
  | leaf e sz xs v vs ho hf =>
    rcases ho.2 with ⟨h, h0⟩ | ⟨g, cap, cur, rfl, hB, hg, h1, h2, _⟩
    · exact .inl ⟨h, h0⟩
    · exact .inr ⟨g, cap, rfl, h1, by simp [blk]⟩
  | node e ts v vs fps ho hl h hnd =>
    rcases ho.2 with ⟨h, h0⟩ | ⟨g, cap, cur, rfl, hB, hg, h1, h2, _⟩
    · exact .inl ⟨h, h0⟩
    · exact .inr ⟨g, cap, rfl, h1, by simp [blk]⟩
  | rv => cases hrow
theorem p_part {T E sz i : Nat} {p : List Nat} {t t' : Tr} {x : Operand} {lo hi : Option Operand} {l h : Int} (ho : o.op = .slice T x lo hi none) (hT : P.underlying T = some (.slice E)) (hE : (P.info? E).map (·.size) = some sz)
    (hx : ev s x = some (.own i p)) (hi' : lk i s.objs = some (.tree t)) (hp : t.get p = some t') (hlo : bnd s 0 lo = some l) (hhi : bnd s t'.len hi = some h) (h0 : 0 ≤ l) (h1 : l ≤ h) (h2 : h ≤ t'.len) (hrow : t'.row = true := by exact rfl) : PureOp P C o s (.part i p sz l.toNat h.toNat) := fun ψ φ a w hF => by
  obtain ⟨fp, e1, e2, e3⟩ := hF.tree hx hi' hp
  have hv : ∃ A cap, a.eval x = .slice A t'.len cap ∧ t'.len ≤ cap := by
    rcases tree_slice e2 hrow with ⟨h, h0⟩ | ⟨g, cap, h, h3, _⟩
    · exact ⟨none, 0, by rw [h, h0], by omega⟩
    · exact ⟨_, _, h, h3⟩
  obtain ⟨A, cap, e, hcap⟩ := hv
  rw [e] at e1
  have b1 : (lo.map a.eval = none ∧ l = 0) ∨ ∃ k, lo.map a.eval = some (.int k l) := by
    cases lo with
    | none => exact .inl ⟨rfl, by simpa [bnd] using hlo.symm⟩
    | some y => obtain ⟨k, hk⟩ := bnd_eval hF hlo; exact .inr ⟨k, by simp [hk]⟩
  have b2 : (hi.map a.eval = none ∧ h = t'.len) ∨ ∃ k, hi.map a.eval = some (.int k h) := by
    cases hi with
    | none => exact .inl ⟨rfl, by simpa [bnd] using hhi.symm⟩
    | some y => obtain ⟨k, hk⟩ := bnd_eval hF hhi; exact .inr ⟨k, by simp [hk]⟩
  refine ⟨_, fun w1 _ => ?_, .part i p sz l.toNat h.toNat t'.len cap A ⟨_, hi', t', hp⟩ e1 (by omega) (by omega) hcap⟩
  have := run_sliceAt' (P := P) hT hE A t'.len cap _ _ l h b1 b2 h0 h1 h2 hcap w1
  simp only [execOp, ho, e, Sem.run_bind, Option.map_none, this, Result.andThen_ok, Sem.run_pure]
theorem p_len_part {x : Operand} {T E sz i l n : Nat} {p : List Nat} (ho : o.op = .call { callee := .builtin .len, args := #[x], argTypes := #[T] }) (hT : P.underlying T = some (.slice E)) (hx : ev s x = some (.part i p sz l n)) :
    PureOp P C o s (.val (.int .i64 ((n - l : Nat) : Int))) := fun ψ φ a w hF => by
  obtain ⟨m, cap, A, _, _, _, _, _, e⟩ := (hF.ev hx).part_inv
  exact ⟨_, fun w1 _ => by simp [execOp, ho, resolve, invoke, builtin, Builtin.len_, run_underlying hT, e, goInt], .ro (.val _)⟩
theorem p_idx_part {T E sz i l n : Nat} {p : List Nat} {t t' : Tr} {x y : Operand} {k : IntKind} {j : Int} (ho : o.op = .indexAddr T x y) (hT : P.underlying T = some (.slice E)) (hE : (P.info? E).map (·.size) = some sz)
    (hx : ev s x = some (.part i p sz l n)) (hi : lk i s.objs = some (.tree t)) (hp : t.get p = some t') (hy : ev s y = some (.val (.int k j))) (h0 : 0 ≤ j) (h1 : j < ((n - l : Nat) : Int)) (hrow : t'.row = true := by exact rfl) : PureOp P C o s (.oref i p sz (l + j.toNat) 0) := fun ψ φ a w hF => by
  obtain ⟨m, cap, A, ha, hid, hl, hn, hm, e⟩ := (hF.ev hx).part_inv
  obtain ⟨v', fp', h3, h4, h5⟩ := TreeAt.get (hF.hp.objs i _ hi) hp
  have ev' := ha.same h3
  subst ev'
  rcases tree_slice h4 hrow with ⟨h6, h7⟩ | ⟨g, cap', h6, h7, _⟩
  · cases h6
    omega
  · simp only [Value.slice.injEq] at h6
    obtain ⟨rfl, h8, rfl⟩ := h6
    have hc : ¬ cap = l := by omega
    rw [if_neg hc, Option.map_some, Addr.add_lit, Nat.zero_add] at e
    refine ⟨.pointer (some ⟨g, (l + j.toNat) * sz + 0, none⟩), fun w1 _ => ?_, .oref i p sz _ 0 g m cap hid ha⟩
    have e5 : (⟨g, l * sz, none⟩ : Addr).add (j.toNat * sz) = ⟨g, (l + j.toNat) * sz + 0, none⟩ := by
      rw [Addr.add_lit]; simp [Nat.add_mul]
    simp [execOp, ho, e, hF.ev_val hy, run_indexAt' hT hE ⟨g, l * sz, none⟩ (n - l) (cap - l) k j h0 (by omega), e5]
theorem src_part {y : Operand} {e sz i l n : Nat} {p : List Nat} {t : Tr} {xs : List (List AV)} (hy : ev s y = some (.part i p sz l n)) (hi : lk i s.objs = some (.tree t)) (hp : t.get p = some (.leaf e sz xs)) (hn : n ≤ xs.length) (hpl : ∀ x ∈ xs, AV.plL x = true) : Src C s y sz ((xs.take n).drop l) := fun ψ φ a w hF => by
  have hr := (View.part i p t e sz l n xs hi hp _ rfl).ro_at hF (hF.ev hy)
  have hplq : ∀ x ∈ (xs.take n).drop l, AV.plL x = true := fun x hx => hpl x (List.mem_of_mem_take (List.mem_of_mem_drop hx))
  generalize (xs.take n).drop l = q at hr hplq ⊢
  generalize hv : a.eval y = v at hr
  cases v with
  | slice A n' cap =>
    cases A with
    | none =>
      cases hr
      exact .inl ⟨rfl, rfl⟩
    | some ad =>
      obtain ⟨h1, _, _, _, vs, h2, h3⟩ := hr.flat
      refine .inr ⟨ad, cap, vs, by rw [h1], ⟨h2.len, h2.one, h2.sz_, fun j x c b hx hb => ?_⟩, h3⟩
      obtain ⟨u, hu, hru⟩ := h2.at_ j x c b hx hb
      exact ⟨u, hu, hru.plain (plL_mem x (hplq x (List.mem_of_getElem? hx)) b (List.mem_of_getElem? hb))⟩
  | _ => cases hr
/-- A part is cleared. -/
theorem clear_run {T E : Nat} {x : Operand} {w : World} {a : Act} {g l n cap : Nat} {t : TypeId} {cur : Array Value} {z : Value} (ho : o.op = .call { callee := .builtin .clear, args := #[x], argTypes := #[T] }) (hu : P.underlying T = some (.slice E)) (hz : ∀ w, (zeroValue E).run P w = .ok z w) (hz1 : z.oneCell' = true)
    (hx : a.eval x = .slice (some ⟨g, l, none⟩) n cap) (hn : 0 < n) (hg : w.heap[g]? = some (.cells cur t (0, 0))) (hl : l + n ≤ cur.size) :
    (execOp a.eval o).run P w = .ok (.value (.tuple #[])) (w.setRow g (cur.toList.take l ++ List.replicate n z ++ cur.toList.drop (l + n)).toArray) := by
  have hzc : (Builtin.zeroCells z.cells n).toList = List.replicate n z := by
    rw [cells_one hz1]
    apply List.ext_getElem
    · simp [Builtin.zeroCells]
    · intro i h1 h2
      simp [Builtin.zeroCells, Nat.mod_one]
  have h1 : ∀ v ∈ List.replicate n z, v.oneCell' = true := fun v hv => by rw [List.eq_of_mem_replicate hv]; exact hz1
  have hs := run_storeCells_at P g l t (List.replicate n z) 0 cur w hg (by simpa using hl) h1
  have hcl : (Builtin.clear_ #[T] o.type #[.slice (some ⟨g, l, none⟩) n cap]).run P w = .ok (.tuple #[]) (w.setRow g (cur.toList.take l ++ List.replicate n z ++ cur.toList.drop (l + n)).toArray) := by
    obtain ⟨m, rfl⟩ : ∃ m, n = m + 1 := ⟨n - 1, by omega⟩
    simp only [Nat.add_zero, List.length_replicate] at hs
    simp [Builtin.clear_, run_underlying hu, hz, hzc, hs]
  simp [execOp, ho, resolve, invoke, builtin, hx, hcl]
theorem op_clear_part {T E i l n : Nat} {x : Operand} {xs : List (List AV)} {z : Value} {za : AV} (ho : o.op = .call { callee := .builtin .clear, args := #[x], argTypes := #[T] }) (hd : o.dst = none) (hu : P.underlying T = some (.slice E)) (hz : (P.info? E).bind (·.zero) = some z) (hz1 : z.oneCell' = true) (hza : ∀ w ok, RO w ok za z)
    (hx : ev s x = some (.part i [] 1 l n)) (hi : lk i s.objs = some (.tree (.leaf E 1 xs))) : OpD P C [i] o s ⟨s.env, (i, .tree (.leaf E 1 (xs.take l ++ List.replicate (n - l) [za] ++ xs.drop n))) :: rm i s.objs⟩ := by
  intro ψ φ a w hF
  obtain ⟨m, cap, A, ha, _, hl, hn, hm, e⟩ := (hF.ev hx).part_inv
  have hobj : TreeAt w 0 (okS C ψ s.objs w) (.leaf E 1 xs) (φ i) (ψ i) := hF.hp.objs i _ hi
  have ha' : Value.slice A m cap = φ i := ha
  rw [← ha'] at hobj
  have hfp : ψ i = (blk (.slice A m cap)).toList := by
    generalize ψ i = q at hobj
    cases hobj with
    | leaf => rfl
  have hml : m = xs.length := by
    rcases tree_slice hobj rfl with ⟨h6, h7⟩ | ⟨g, cap', h6, _⟩
    · cases h6; exact h7.symm
    · cases h6; rfl
  unfold Oper.wp
  by_cases h0 : n - l = 0
  · have hxs : xs.take l ++ List.replicate (n - l) [za] ++ xs.drop n = xs := by
      have : n = l := by omega
      subst this
      simp
    rw [hxs]
    have hcl : (Builtin.clear_ #[T] o.type #[a.eval x]).run P w = .ok (.tuple #[]) w := by
      rw [e, h0]
      generalize (if cap = l then A else A.map (·.add (l * 1))) = A'
      cases A' <;> simp [Builtin.clear_, run_underlying hu]
    have hr : (execOp a.eval o).run P w = .ok (.value (.tuple #[])) w := by simp [execOp, ho, resolve, invoke, builtin, hcl]
    rw [hr, Oper.upon_value, hd]
    have hF' := hF.upd i (.tree (.leaf E 1 xs)) (.tree (.leaf E 1 xs)) hi (Ch.refl _ _) (fun _ h => h) rfl (fun _ _ _ h => h) (fun ok ids h1 _ _ => TreeAt.move (hF.hp.objs i _ hi) (fun _ _ => rfl) (fun _ _ => rfl) h1)
    refine ⟨ψ, φ, hF', Ch.refl _ _, fun j oj hj k hk => ?_⟩
    by_cases c : i = j
    · exact .inr (.inl ⟨_, c ▸ hi, hk⟩)
    · rw [lk_cons, if_neg c, lk_rm, if_neg c] at hj
      exact .inr (.inl ⟨oj, hj, hk⟩)
  · rw [hfp] at hobj
    cases hobj with
    | leaf _ _ _ _ vs hown hf =>
      rcases hown.2 with ⟨h, h1⟩ | ⟨g, cap', cur, h, hB, hg, hn', hcm, hcs, htake⟩
      · omega
      · simp only [Value.slice.injEq] at h
        obtain ⟨hA, _, hcap⟩ := h
        subst hcap
        subst hA
        have hc : ¬ cap = l := by omega
        rw [if_neg hc, Option.map_some, Addr.add_lit, Nat.zero_add, Nat.mul_one] at e
        have hcur : cur.size = cap := by rw [hcs, Nat.mul_one]
        have hr := clear_run (P := P) ho hu (run_zero_of hz) hz1 e (by omega) hg (by omega)
        have hgi : g ∈ ψ i := by rw [hfp]; simp [blk]
        have hokg : ∀ k, okS C ψ s.objs w k → k ≠ g := fun k hk e => hk.2.2 i _ hi (e ▸ hgi)
        rw [hr, Oper.upon_value, hd]
        have hvl : vs.length = xs.length := by rw [hf.len, Nat.mul_one]
        have hF' := hF.upd (w1 := w.setRow g (cur.toList.take l ++ List.replicate (n - l) z ++ cur.toList.drop (l + (n - l))).toArray) i (.tree (.leaf E 1 xs)) (.tree (.leaf E 1 (xs.take l ++ List.replicate (n - l) [za] ++ xs.drop n))) hi (ch_setRow w g _ hgi) (fun q hq => by
          obtain ⟨r, hr⟩ := hq
          cases q with
          | nil => exact ⟨_, rfl⟩
          | cons => simp [Tr.get] at hr) rfl (fun q v hq hav => by
          obtain ⟨r, hr⟩ := hq
          cases q with
          | nil => exact hav
          | cons => simp [Tr.get] at hr) (fun ok ids h1 _ _ => by
          rw [← ha', hfp]
          have hl1 : (xs.take l ++ List.replicate (n - l) [za] ++ xs.drop n).length = xs.length := by
            simp only [List.length_append, List.length_take, List.length_replicate, List.length_drop]; omega
          refine TreeAt.leaf E 1 _ _ (vs.take l ++ List.replicate (n - l) z ++ vs.drop n) ?_ ⟨?_, fun u hu => ?_, fun y hy => ?_, fun j y c b hy hb => ?_⟩
          · rw [hl1]
            refine ⟨?_, .inr ⟨g, cap, (cur.toList.take l ++ List.replicate (n - l) z ++ cur.toList.drop (l + (n - l))).toArray, by rw [hml], Nat.zero_le _, setRow_heap w g cur _ E (0, 0) hg, hn', hcm, ?_, ?_⟩⟩
            · simp only [List.length_append, List.length_take, List.length_replicate, List.length_drop, Nat.mul_one]; omega
            · simp only [List.size_toArray, List.length_append, List.length_take, List.length_drop, List.length_replicate, Array.length_toList]; omega
            · rw [← htake]
              have e2 : l + (n - l) = n := by omega
              apply List.ext_getElem?
              intro k
              have hcl : cur.toList.length = cap := by rw [Array.length_toList]; exact hcur
              have s1 := splice_get cur.toList (List.replicate (n - l) z) l k (by rw [List.length_replicate, hcl]; omega)
              have s2 := splice_get (cur.toList.take (xs.length * 1)) (List.replicate (n - l) z) l k (by rw [List.length_replicate, List.length_take, hcl]; omega)
              rw [List.length_replicate, e2] at s1 s2
              simp only [List.getElem?_take, e2]
              rw [s1, s2]
              simp only [List.getElem?_take]
              by_cases k1 : k < xs.length * 1
              · simp only [k1, if_true]
              · have : ¬ k < l := by omega
                have h5 : ¬ k < n := by omega
                simp only [k1, this, h5, if_false]
          · rw [hl1]
            simp only [List.length_append, List.length_take, List.length_replicate, List.length_drop, Nat.mul_one]; omega
          · rcases List.mem_append.1 hu with hu | hu
            · rcases List.mem_append.1 hu with hu | hu
              · exact hf.one u (List.mem_of_mem_take hu)
              · rw [List.eq_of_mem_replicate hu]; exact hz1
            · exact hf.one u (List.mem_of_mem_drop hu)
          · rcases List.mem_append.1 hy with hy | hy
            · rcases List.mem_append.1 hy with hy | hy
              · exact hf.sz_ y (List.mem_of_mem_take hy)
              · rw [List.eq_of_mem_replicate hy]; rfl
            · exact hf.sz_ y (List.mem_of_mem_drop hy)
          · have e2 : l + (n - l) = n := by omega
            have s1 := splice_get xs (List.replicate (n - l) [za]) l j (by rw [List.length_replicate]; omega)
            have s2 := splice_get vs (List.replicate (n - l) z) l (j * 1 + c) (by rw [List.length_replicate]; omega)
            rw [List.length_replicate, e2] at s1 s2
            rw [s1] at hy
            rw [s2]
            have hm : ∀ k, okS C ψ s.objs w k → (w.setRow g (cur.toList.take l ++ List.replicate (n - l) z ++ cur.toList.drop (l + (n - l))).toArray).heap[k]? = w.heap[k]? := fun k hk => setRow_other w g k _ (hokg k hk)
            have hc0 : y.length = 1 → c = 0 := fun h => by have := (List.getElem?_eq_some_iff.1 hb).1; omega
            by_cases c1 : j < l
            · rw [if_pos c1] at hy
              have := hc0 (hf.sz_ y (List.mem_of_getElem? hy))
              subst this
              rw [if_pos (by omega)]
              obtain ⟨u, hu, hru⟩ := hf.at_ j y 0 b hy hb
              exact ⟨u, hu, hru.move hm h1⟩
            · rw [if_neg c1] at hy
              by_cases c2 : j < n
              · rw [if_pos c2] at hy
                have hy2 : y = [za] := List.eq_of_mem_replicate (List.mem_of_getElem? hy)
                subst hy2
                have := hc0 rfl
                subst this
                rw [if_neg (by omega), if_pos (by omega)]
                obtain rfl : za = b := by simpa using hb
                refine ⟨z, ?_, hza _ _⟩
                rw [List.getElem?_replicate, if_pos (by omega)]
              · rw [if_neg c2] at hy
                have := hc0 (hf.sz_ y (List.mem_of_getElem? hy))
                subst this
                rw [if_neg (by omega), if_neg (by omega)]
                obtain ⟨u, hu, hru⟩ := hf.at_ j y 0 b hy hb
                exact ⟨u, hu, hru.move hm h1⟩)
        refine ⟨ψ, φ, hF', ?_, fun j oj hj k hk => ?_⟩
        · have := ch_setRow w g (cur.toList.take l ++ List.replicate (n - l) z ++ cur.toList.drop (l + (n - l))).toArray hgi
          exact ⟨this.os, this.tape, this.output, this.size, fun k hk hno => this.block k hk (fun h => hno ⟨i, _, by simp, hi, h⟩)⟩
        · by_cases c : i = j
          · exact .inr (.inl ⟨_, c ▸ hi, hk⟩)
          · rw [lk_cons, if_neg c, lk_rm, if_neg c] at hj
            exact .inr (.inl ⟨oj, hj, hk⟩)

/-! ### 51. An object made anew whose root stays -/
theorem SimF.modJ {ψ : Nat → List Nat} {φ : Nat → Value} {a : Act} {w w1 : World} (h : SimF C ψ φ s a w) (D : List Nat) (i : Nat) (o o' : Obj) (fp' : List Nat) (hi : i ∈ D) (hlk : lk i s.objs = some o) (hg : Ch w w1 (inD ψ s.objs D)) (hfx : fixable i o' = fixable i o) (hrt : o'.has [])
    (hv : ∀ k ∈ fp', inD ψ s.objs D k ∨ w.heap.size ≤ k)
    (ho : ∀ ok ids ψ' φ', (∀ k, okS C ψ s.objs w k → ok k) → ObjAt w1 0 ok ids ψ' φ' o' (φ i) fp') :
    SimF C (ups ψ i fp') φ ⟨jmE D [i] s.env, (i, o') :: jmO D [i] s.objs⟩ a w1 := by
  have hlkb : ∀ j oj, j ≠ i → lk j ((i, o') :: jmO D [i] s.objs) = some oj → j ∉ D ∧ ∃ x, lk j s.objs = some x ∧ jmB D [i] x = oj := by
    intro j oj hne hj
    rw [lk_cons, if_neg (Ne.symm hne), lk_jmO] at hj
    by_cases e : j ∈ D
    · rw [if_pos e] at hj; cases hj
    · rw [if_neg e, Option.map_eq_some_iff] at hj
      exact ⟨e, hj⟩
  have hlkf : ∀ j x, j ∉ D → lk j s.objs = some x → lk j ((i, o') :: jmO D [i] s.objs) = some (jmB D [i] x) := by
    intro j x hne hj
    rw [lk_cons, if_neg (fun e : i = j => hne (e ▸ hi)), lk_jmO, if_neg hne, hj]
    rfl
  have hne : ∀ j, j ∉ D → j ≠ i := fun j hj e => hj (e ▸ hi)
  have hoth : ∀ j oj, j ∉ D → lk j s.objs = some oj → ∀ k ∈ ψ j, w1.heap[k]? = w.heap[k]? := fun j oj hj hl k hk =>
    hg.block k (h.hp.lt hl hk).2 (fun ⟨d, od, hd, hld, hkd⟩ => hj (h.hp.disj j d oj od k hl hld hk hkd ▸ hd))
  have hmv : Mv w w1 (fun j p => idsS s.objs j p ∧ (j ∉ D ∨ (p = [] ∧ j ∈ [i]))) (idsS ((i, o') :: jmO D [i] s.objs)) ψ (ups ψ i fp') φ φ := by
    refine ⟨?_, fun _ _ _ => rfl, ?_⟩
    · rintro j p ⟨⟨oj, hl, hp⟩, hj | ⟨rfl, hj⟩⟩
      · exact ⟨_, hlkf j oj hj hl, has_jmB.2 hp⟩
      · obtain rfl : j = i := by simpa using hj
        exact ⟨o', by rw [lk_cons, if_pos rfl], hrt⟩
    · rintro j p v ⟨⟨oj, hl, hp⟩, hj | ⟨rfl, hj⟩⟩ ha
      · rw [ups_ne _ _ (hne j hj)]
        exact ha.move (hoth j oj hj hl)
      · exact ha
  have hblk : ∀ k, okS C ψ s.objs w k → w1.heap[k]? = w.heap[k]? := fun k hk => hg.block k hk.2.1 (fun ⟨d, od, _, hld, hkd⟩ => hk.2.2 d od hld hkd)
  have hok : ∀ k, okS C ψ s.objs w k → okS C (ups ψ i fp') ((i, o') :: jmO D [i] s.objs) w1 k := by
    rintro k ⟨k1, k2, k3⟩
    refine ⟨k1, Nat.lt_of_lt_of_le k2 hg.size, fun j oj hj hk => ?_⟩
    by_cases e : j = i
    · subst e
      rw [ups_self] at hk
      rcases hv k hk with ⟨d, od, _, hld, hkd⟩ | h1
      · exact k3 d od hld hkd
      · omega
    · rw [ups_ne _ _ e] at hk
      obtain ⟨_, x, hx, _⟩ := hlkb j oj e hj
      exact k3 j x hx hk
  have hbelow : Ch C.w0 w1 C.bor := by
    refine h.hp.below.trans hg (fun k hk ⟨d, od, _, hld, hkd⟩ => ?_)
    rcases (h.hp.lt hld hkd).1 with h1 | h1
    · omega
    · exact h1
  have hrep : ∀ a u, Rep w (okS C ψ s.objs w) (idsS s.objs) ψ φ a u → Rep w1 (okS C (ups ψ i fp') ((i, o') :: jmO D [i] s.objs) w1) (idsS ((i, o') :: jmO D [i] s.objs)) (ups ψ i fp') φ (AV.jm D [i] a) u := fun a u hr => (hr.jm D [i]).move hblk hok hmv
  refine ⟨h.defers, h.size, ⟨hbelow, fun j o2 hj => ?_, ?_, ?_, ?_⟩, fun t av ht => ?_⟩
  · by_cases e : j = i
    · subst e
      rw [lk_cons, if_pos rfl] at hj
      obtain rfl := Option.some.inj hj
      rw [ups_self]
      exact ho _ _ _ _ hok
    · obtain ⟨hjD, x, hx, rfl⟩ := hlkb j o2 e hj
      rw [ups_ne _ _ e]
      exact boxSim (AV.jm D [i]) (jmB D [i]) (fun T cs => by simp [jmB, jmL_map]) (fun _ => rfl) (fun _ => rfl) (h.hp.objs j x hx) (hoth j x hjD hx) hblk hok hrep
  · intro j j' oj oj' k hj hj' hk hk'
    by_cases e : j = i
    · by_cases e' : j' = i
      · rw [e, e']
      · rw [e, ups_self] at hk
        rw [ups_ne _ _ e'] at hk'
        obtain ⟨hjD', x', hx', _⟩ := hlkb j' oj' e' hj'
        rcases hv k hk with ⟨d, od, hd, hld, hkd⟩ | h1
        · exact absurd (h.hp.disj j' d x' od k hx' hld hk' hkd ▸ hd) hjD'
        · have := (h.hp.lt hx' hk').2
          omega
    · rw [ups_ne _ _ e] at hk
      obtain ⟨hjD, x, hx, _⟩ := hlkb j oj e hj
      by_cases e' : j' = i
      · rw [e', ups_self] at hk'
        rcases hv k hk' with ⟨d, od, hd, hld, hkd⟩ | h1
        · exact absurd (h.hp.disj j d x od k hx hld hk hkd ▸ hd) hjD
        · have := (h.hp.lt hx hk).2
          omega
      · rw [ups_ne _ _ e'] at hk'
        obtain ⟨_, x', hx', _⟩ := hlkb j' oj' e' hj'
        exact h.hp.disj j j' x x' k hx hx' hk hk'
  · intro j oj k hj hk
    by_cases e : j = i
    · rw [e, ups_self] at hk
      rcases hv k hk with ⟨d, od, _, hld, hkd⟩ | h1
      · exact h.hp.own d od k hld hkd
      · exact .inl (Nat.le_trans h.hp.below.size h1)
    · rw [ups_ne _ _ e] at hk
      obtain ⟨_, x, hx, _⟩ := hlkb j oj e hj
      exact h.hp.own j x k hx hk
  · intro j u oj hu hj hf
    by_cases e : j = i
    · subst e
      rw [lk_cons, if_pos rfl] at hj
      obtain rfl := Option.some.inj hj
      exact h.hp.fix j u o hu hlk (by rw [← hfx]; exact hf)
    · obtain ⟨_, x, hx, rfl⟩ := hlkb j _ e hj
      exact h.hp.fix j u x hu hx (by rw [← fixable_jmB (K := D) (G := [i])]; exact hf)
  · rw [lk_jmE, Option.map_eq_some_iff] at ht
    obtain ⟨x, hx, rfl⟩ := ht
    exact ⟨(h.env t x hx).1, hrep x _ (h.env t x hx).2⟩
theorem getD_set_fps {fps : List (List Nat)} {j : Nat} {f : List Nat} {k : Nat} (h : k ∈ (fps.set j f).flatten) : k ∈ fps.flatten ∨ k ∈ f := by
  obtain ⟨g, hg, hk⟩ := List.mem_flatten.1 h
  rcases List.mem_or_eq_of_mem_set hg with h1 | h1
  · exact .inl (List.mem_flatten.2 ⟨g, h1, hk⟩)
  · exact .inr (h1 ▸ hk)
theorem nodup_set {fps : List (List Nat)} {j : Nat} {f : List Nat} (h : fps.flatten.Nodup) (hf : f.Nodup) (hd : ∀ k ∈ f, k ∉ fps.flatten) : (fps.set j f).flatten.Nodup := by
  unfold List.Nodup at h hf ⊢
  rw [List.pairwise_flatten] at h ⊢
  refine ⟨fun l hl => ?_, ?_⟩
  · rcases List.mem_or_eq_of_mem_set hl with h1 | h1
    · exact h.1 l h1
    · rw [h1]; exact hf
  · rw [List.pairwise_iff_getElem] at *
    intro p q hp hq hpq
    have hp' : p < fps.length := by simpa using hp
    have hq' : q < fps.length := by simpa using hq
    have h2 := h.2 p q hp' hq' hpq
    intro x hx y hy
    rw [List.getElem_set] at hx hy
    by_cases c1 : j = p
    · rw [if_pos c1] at hx
      rw [if_neg (by omega)] at hy
      rintro rfl
      exact hd x hx (List.mem_flatten.2 ⟨_, List.getElem_mem hq', hy⟩)
    · rw [if_neg c1] at hx
      by_cases c2 : j = q
      · rw [if_pos c2] at hy
        rintro rfl
        exact hd x hy (List.mem_flatten.2 ⟨_, List.getElem_mem hp', hx⟩)
      · rw [if_neg c2] at hy
        exact h2 x hx y hy
/-- A row of the call's own is stored into a row of rows. -/
theorem op_store_node {T i j e c : Nat} {x y : Operand} {t : Tr} {ts : List Tr} (ho : o.op = .store T x y) (hd : o.dst = none) (hT : (P.info? T).map (·.size) = some 1) (hx : ev s x = some (.oref i [] 1 j 0)) (hi : lk i s.objs = some (.tree (.node e ts))) (hj : j < ts.length) (hy : ev s y = some (.own c [])) (hc : lk c s.objs = some (.tree t)) (hne : Nat.beq i c = false) :
    OpD P C [i, c] o s ⟨jmE [i, c] [i] s.env, (i, .tree (.node e (ts.set j t))) :: jmO [i, c] [i] s.objs⟩ := by
  intro ψ φ a w hF
  have hic : i ≠ c := fun e => by rw [e, Nat.beq_refl] at hne; cases hne
  obtain ⟨g, n, cap, e1, e2, e3⟩ := (hF.ev hx).oref_inv
  have e4 : a.eval y = φ c := (hF.ev_own hy).1
  have hobj : TreeAt w 0 (okS C ψ s.objs w) (.node e ts) (φ i) (ψ i) := hF.hp.objs i _ hi
  have hobc : TreeAt w 0 (okS C ψ s.objs w) t (φ c) (ψ c) := hF.hp.objs c _ hc
  have e1' : Value.slice (some ⟨g, 0, none⟩) n cap = φ i := e1
  rw [← e1'] at hobj
  generalize hψ : ψ i = fp at hobj
  obtain ⟨A, n2, cap2, e5⟩ := hobc.slice
  have hone : (φ c).oneCell' = true := by rw [e5]; rfl
  cases hobj with
  | node _ _ _ vs fps hown hlen h hnd =>
    rcases hown.2 with ⟨h0, _⟩ | ⟨g', cap', cur, h0, hB, hg, hn, hcm, hcs, htake⟩
    · cases h0
    · simp only [Value.slice.injEq, Option.some.injEq, Addr.mk.injEq, and_true, true_and] at h0
      obtain ⟨hg', hnl, hcap⟩ := h0
      subst hg'
      subst hcap
      have hvl : vs.length = ts.length := by rw [hown.1, Nat.mul_one]
      have hrun := run_storeAt (P := P) (T := T) (v := a.eval y) (us := [φ c]) hT (by rw [e4, cells_one hone]) (fun u hu => by rw [List.mem_singleton.1 hu]; exact hone) hg (show j * 1 + 0 + [φ c].length ≤ cur.size by rw [hcs]; simp only [List.length_singleton]; omega)
      have hgi : g ∈ ψ i := by rw [hψ]; simp [blk]
      have hfl : ∀ k ∈ fps.flatten, k ∈ ψ i := fun k hk => by rw [hψ]; exact List.mem_append_right _ hk
      have hch := ch_setRow w g (cur.toList.take (j * 1 + 0) ++ [φ c] ++ cur.toList.drop (j * 1 + 0 + [φ c].length)).toArray hgi
      have hdis : ∀ k, k ∈ ψ i → k ∉ ψ c := fun k h1 h2 => hic (hF.hp.disj i c _ _ k hi hc h1 h2)
      have hng : ∀ k, k ∈ fps.flatten → k ≠ g := fun k hk e => (List.nodup_append.1 hnd).2.2 g (by simp [blk]) k hk e.symm
      have hsame : ∀ k, k ≠ g → (w.setRow g (cur.toList.take (j * 1 + 0) ++ [φ c] ++ cur.toList.drop (j * 1 + 0 + [φ c].length)).toArray).heap[k]? = w.heap[k]? := fun k hk => setRow_other w g k _ hk
      have hokg : ∀ k, okS C ψ s.objs w k → k ≠ g := fun k hk e => hk.2.2 i _ hi (e ▸ hgi)
      have hgc : ∀ k ∈ ψ c, k ≠ g := fun k hk e => hdis g hgi (e ▸ hk)
      have hm := hF.modJ (w1 := w.setRow g (cur.toList.take (j * 1 + 0) ++ [φ c] ++ cur.toList.drop (j * 1 + 0 + [φ c].length)).toArray) [i, c] i (.tree (.node e ts)) (.tree (.node e (ts.set j t))) ([g] ++ (fps.set j (ψ c)).flatten) (by simp) hi ⟨hch.os, hch.tape, hch.output, hch.size, fun k hk hno => hch.block k hk (fun hk' => hno ⟨i, _, by simp, hi, hk'⟩)⟩ rfl ⟨_, rfl⟩ (fun k hk => by
        rcases List.mem_append.1 hk with hk | hk
        · exact .inl ⟨i, _, by simp, hi, by rw [List.mem_singleton.1 hk]; exact hgi⟩
        · rcases getD_set_fps hk with hk | hk
          · exact .inl ⟨i, _, by simp, hi, hfl k hk⟩
          · exact .inl ⟨c, _, by simp, hc, hk⟩) (fun ok ids ψ' φ' hk => by
        rw [← e1']
        have hnode := TreeAt.node (w := w.setRow g (cur.toList.take (j * 1 + 0) ++ [φ c] ++ cur.toList.drop (j * 1 + 0 + [φ c].length)).toArray) (B := 0) (ok := ok) e (ts.set j t) (.slice (some ⟨g, 0, none⟩) n cap) (vs.set j (φ c)) (fps.set j (ψ c)) ?_ (by simpa using hlen) (fun q t' u f k1 k2 k3 => ?_) ?_
        · exact hnode
        · refine ⟨by simpa using hown.1, .inr ⟨g, cap, _, by rw [List.length_set, hnl], Nat.zero_le _, setRow_heap w g cur _ e (0, 0) hg, by simpa using hn, hcm, ?_, ?_⟩⟩
          · simp only [List.size_toArray, List.length_append, List.length_take, List.length_drop, List.length_singleton, Array.length_toList]; omega
          · rw [← htake]
            apply List.ext_getElem?
            intro k
            have hcl : cur.toList.length = cap := by rw [Array.length_toList, hcs, Nat.mul_one]
            have s1 := splice_get cur.toList [φ c] (j * 1 + 0) k (by rw [hcl]; simp only [List.length_singleton]; omega)
            simp only [List.length_set, List.getElem?_take]
            rw [s1, List.getElem?_set]
            simp only [List.length_singleton, List.getElem?_take, List.length_take, hcl]
            by_cases k1 : k < ts.length * 1
            · rw [if_pos k1]
              by_cases k2 : j = k
              · subst k2
                rw [if_pos rfl, if_neg (by omega), if_pos (by omega), if_pos (by omega)]
                simp
              · rw [if_neg k2]
                by_cases k3 : k < j
                · rw [if_pos (by omega), if_pos k1]
                · rw [if_neg (by omega), if_neg (by omega), if_pos k1]
            · rw [if_neg k1, if_neg (by omega), if_neg k1]
        · rw [List.getElem?_set] at k1 k2 k3
          by_cases c1 : j = q
          · subst c1
            rw [if_pos rfl, if_pos hj] at k1
            rw [if_pos rfl, if_pos (by omega)] at k2
            rw [if_pos rfl, if_pos (by omega)] at k3
            obtain rfl := Option.some.inj k1
            obtain rfl := Option.some.inj k2
            obtain rfl := Option.some.inj k3
            exact TreeAt.move hobc (fun k hk => hsame k (hgc k hk)) (fun k hk => hsame k (hokg k hk)) hk
          · rw [if_neg c1] at k1 k2 k3
            exact (h q t' u f k1 k2 k3).move (fun k hk => hsame k (hng k (get_flatten k3 hk))) (fun k hk => hsame k (hokg k hk)) hk
        · have hnd2 := (List.nodup_append.1 hnd).2.1
          refine List.nodup_append.2 ⟨by simp [blk], nodup_set hnd2 hobc.nodup (fun k hk hk2 => hdis k (hfl k hk2) hk), fun p hp q hq e => ?_⟩
          have hp2 : p = g := by simpa [blk] using hp
          subst hp2
          subst e
          rcases getD_set_fps hq with h1 | h1
          · exact hng p h1 rfl
          · exact hdis p hgi h1)
      unfold Oper.wp
      have hex : (execOp a.eval o).run P w = .ok .skip (w.setRow g (cur.toList.take (j * 1 + 0) ++ [φ c] ++ cur.toList.drop (j * 1 + 0 + [φ c].length)).toArray) := by
        simp only [execOp, ho, e2, Sem.run_bind, hrun, Result.andThen_ok, Sem.run_pure]
      rw [hex, Oper.upon_skip, hd]
      refine ⟨_, _, hm, ⟨hch.os, hch.tape, hch.output, hch.size, fun k hk hno => hch.block k hk (fun hk' => hno ⟨i, _, by simp, hi, hk'⟩)⟩, fun q oq hq k hk => ?_⟩
      by_cases c1 : q = i
      · subst c1
        rw [ups_self] at hk
        rcases List.mem_append.1 hk with hk | hk
        · exact .inr (.inr ⟨q, _, by simp, hi, by rw [List.mem_singleton.1 hk]; exact hgi⟩)
        · rcases getD_set_fps hk with hk | hk
          · exact .inr (.inr ⟨q, _, by simp, hi, hfl k hk⟩)
          · exact .inr (.inr ⟨c, _, by simp, hc, hk⟩)
      · rw [ups_ne _ _ c1] at hk
        rw [lk_cons, if_neg (Ne.symm c1), lk_jmO] at hq
        split at hq
        · cases hq
        · rw [Option.map_eq_some_iff] at hq
          obtain ⟨x, hx, _⟩ := hq
          exact .inr (.inl ⟨x, hx, hk⟩)
end
end Go.Proofs.YtmiijpobhajfmaaGreat.J
namespace Go.Proofs.YtmiijpobhajfmaaGreat.J
open Go Go.RowKit
set_option linter.unusedVariables false
set_option linter.unusedSimpArgs false
section
variable {P : Program} {C : Ctx} {s : AS} {o : Oper}

/-! ### 52. Elements of a row of single cells are written -/
theorem SimF.splice1 {ψ : Nat → List Nat} {φ : Nat → Value} {a : Act} {w : World} (hF : SimF C ψ φ s a w) {i E g n cap l : Nat} {xs ys : List (List AV)} {us : List Value} (hi : lk i s.objs = some (.tree (.leaf E 1 xs))) (hφ : φ i = .slice (some ⟨g, 0, none⟩) n cap) (hlen : us.length = ys.length) (hl : l + us.length ≤ xs.length)
    (h1u : ∀ u ∈ us, u.oneCell' = true) (hys : ∀ y ∈ ys, y.length = 1) (hr : ∀ (j : Nat) y b u, ys[j]? = some y → y[0]? = some b → us[j]? = some u → RO w (okS C ψ s.objs w) b u) :
    n = xs.length ∧ n ≤ cap ∧ g ∈ ψ i ∧ ∃ cur, w.heap[g]? = some (.cells cur E (0, 0)) ∧ cur.size = cap ∧ SimF C ψ φ ⟨s.env, (i, .tree (.leaf E 1 (xs.take l ++ ys ++ xs.drop (l + us.length)))) :: rm i s.objs⟩ a (w.setRow g (cur.toList.take l ++ us ++ cur.toList.drop (l + us.length)).toArray) := by
  have hobj : TreeAt w 0 (okS C ψ s.objs w) (.leaf E 1 xs) (φ i) (ψ i) := hF.hp.objs i _ hi
  rw [hφ] at hobj
  have hfp : ψ i = (blk (.slice (some ⟨g, 0, none⟩) n cap)).toList := by
    generalize ψ i = q at hobj
    cases hobj with
    | leaf => rfl
  rw [hfp] at hobj
  cases hobj with
  | leaf _ _ _ _ vs hown hf =>
    rcases hown.2 with ⟨h, h1⟩ | ⟨g', cap', cur, h, hB, hg, hn', hcm, hcs, htake⟩
    · cases h
    · simp only [Value.slice.injEq, Option.some.injEq, Addr.mk.injEq, and_true, true_and] at h
      obtain ⟨hg', hml, hcap⟩ := h
      subst hg'
      subst hcap
      have hcur : cur.size = cap := by rw [hcs, Nat.mul_one]
      have hgi : g ∈ ψ i := by rw [hfp]; simp [blk]
      have hokg : ∀ k, okS C ψ s.objs w k → k ≠ g := fun k hk e => hk.2.2 i _ hi (e ▸ hgi)
      have hvl : vs.length = xs.length := by rw [hf.len, Nat.mul_one]
      refine ⟨hml, by omega, hgi, cur, hg, hcur, ?_⟩
      refine hF.upd (w1 := w.setRow g (cur.toList.take l ++ us ++ cur.toList.drop (l + us.length)).toArray) i (.tree (.leaf E 1 xs)) (.tree (.leaf E 1 (xs.take l ++ ys ++ xs.drop (l + us.length)))) hi (ch_setRow w g _ hgi) (fun q hq => by
          obtain ⟨r, hr⟩ := hq
          cases q with
          | nil => exact ⟨_, rfl⟩
          | cons => simp [Tr.get] at hr) rfl (fun q v hq hav => by
          obtain ⟨r, hr⟩ := hq
          cases q with
          | nil => exact hav
          | cons => simp [Tr.get] at hr) (fun ok ids h1 _ _ => by
          rw [hφ, hfp]
          have hl1 : (xs.take l ++ ys ++ xs.drop (l + us.length)).length = xs.length := by
            simp only [List.length_append, List.length_take, List.length_drop]; omega
          refine TreeAt.leaf E 1 _ _ (vs.take l ++ us ++ vs.drop (l + us.length)) ?_ ⟨?_, fun u hu => ?_, fun y hy => ?_, fun j y c b hy hb => ?_⟩
          · rw [hl1]
            refine ⟨?_, .inr ⟨g, cap, (cur.toList.take l ++ us ++ cur.toList.drop (l + us.length)).toArray, by rw [hml], Nat.zero_le _, setRow_heap w g cur _ E (0, 0) hg, hn', hcm, ?_, ?_⟩⟩
            · simp only [List.length_append, List.length_take, List.length_drop, Nat.mul_one]; omega
            · simp only [List.size_toArray, List.length_append, List.length_take, List.length_drop, Array.length_toList]; omega
            · rw [← htake]
              apply List.ext_getElem?
              intro k
              have hcl : cur.toList.length = cap := by rw [Array.length_toList]; exact hcur
              have s1 := splice_get cur.toList us l k (by rw [hcl]; omega)
              have s2 := splice_get (cur.toList.take (xs.length * 1)) us l k (by rw [List.length_take, hcl]; omega)
              simp only [List.getElem?_take]
              rw [s1, s2]
              simp only [List.getElem?_take]
              by_cases k1 : k < xs.length * 1
              · simp only [k1, if_true]
              · have : ¬ k < l := by omega
                have h5 : ¬ k < l + us.length := by omega
                simp only [k1, this, h5, if_false]
          · rw [hl1]
            simp only [List.length_append, List.length_take, List.length_drop, Nat.mul_one]; omega
          · rcases mem_splice hu with hu | hu
            · exact hf.one u hu
            · exact h1u u hu
          · rw [hlen] at hy
            rcases mem_splice hy with hy | hy
            · exact hf.sz_ y hy
            · exact hys y hy
          · have s1 := splice_get xs ys l j (by omega)
            have s2 := splice_get vs us l (j * 1 + c) (by omega)
            rw [hlen] at hy
            rw [s1] at hy
            rw [s2]
            have hm : ∀ k, okS C ψ s.objs w k → (w.setRow g (cur.toList.take l ++ us ++ cur.toList.drop (l + us.length)).toArray).heap[k]? = w.heap[k]? := fun k hk => setRow_other w g k _ (hokg k hk)
            have hc0 : y.length = 1 → c = 0 := fun h => by have := (List.getElem?_eq_some_iff.1 hb).1; omega
            by_cases c1 : j < l
            · rw [if_pos c1] at hy
              have := hc0 (hf.sz_ y (List.mem_of_getElem? hy))
              subst this
              rw [if_pos (by omega)]
              obtain ⟨u, hu, hru⟩ := hf.at_ j y 0 b hy hb
              exact ⟨u, hu, hru.move hm h1⟩
            · rw [if_neg c1] at hy
              by_cases c2 : j < l + ys.length
              · rw [if_pos c2] at hy
                have := hc0 (hys y (List.mem_of_getElem? hy))
                subst this
                rw [if_neg (by omega), if_pos (by omega)]
                have hj : j * 1 + 0 - l < us.length := by omega
                refine ⟨us[j * 1 + 0 - l], List.getElem?_eq_getElem hj, (hr (j - l) y b _ hy hb ?_).move hm h1⟩
                rw [← List.getElem?_eq_getElem hj]
                congr 1
                omega
              · rw [if_neg c2] at hy
                have := hc0 (hf.sz_ y (List.mem_of_getElem? hy))
                subst this
                rw [if_neg (by omega), if_neg (by omega)]
                obtain ⟨u, hu, hru⟩ := hf.at_ j y 0 b hy hb
                exact ⟨u, hu, hru.move hm h1⟩)
/-- Where a copy goes: a row from some element on. -/
inductive Dst (s : AS) (x : Operand) : Nat → Nat → Nat → Prop
  | own (i n : Nat) (h : ev s x = some (.own i [])) : Dst s x i 0 n
  | part (i l n : Nat) (h : ev s x = some (.part i [] 1 l n)) : Dst s x i l n
theorem Dst.at_ {ψ : Nat → List Nat} {φ : Nat → Value} {a : Act} {w : World} (hF : SimF C ψ φ s a w) {x : Operand} {i E l n : Nat} {xs : List (List AV)} (hx : Dst s x i l n) (hi : lk i s.objs = some (.tree (.leaf E 1 xs))) (hn : n = xs.length) (hl : l < n) :
    ∃ g cap, φ i = .slice (some ⟨g, 0, none⟩) n cap ∧ a.eval x = .slice (some ⟨g, l, none⟩) (n - l) (cap - l) := by
  have hobj : TreeAt w 0 (okS C ψ s.objs w) (.leaf E 1 xs) (φ i) (ψ i) := hF.hp.objs i _ hi
  rcases tree_slice hobj rfl with ⟨h6, h7⟩ | ⟨g, cap, h6, h7, _⟩
  · have : xs.length = 0 := h7
    omega
  · have h8 : φ i = .slice (some ⟨g, 0, none⟩) n cap := by rw [h6, hn]; rfl
    have h9 : xs.length ≤ cap := h7
    refine ⟨g, cap, h8, ?_⟩
    cases hx with
    | own _ h =>
      have : a.eval x = φ i := (hF.ev_own h).1
      rw [this, h8]
      rfl
    | part _ _ h =>
      obtain ⟨m', cap', A, ha, _, hl', hn', hm', e⟩ := (hF.ev h).part_inv
      have ha' : Value.slice A m' cap' = φ i := ha
      rw [h8] at ha'
      cases ha'
      rw [e, if_neg (by omega), Option.map_some, Addr.add_lit, Nat.mul_one, Nat.zero_add]
theorem op_copy {T T2 E i l n d m : Nat} {x y : Operand} {xs ys : List (List AV)} (ho : o.op = .call { callee := .builtin .copy, args := #[x, y], argTypes := #[T, T2] }) (hd : o.dst = some d) (hnd : d < C.n) (hu : P.underlying T = some (.slice E)) (hE : (P.info? E).map (·.size) = some 1)
    (hx : Dst s x i l n) (hi : lk i s.objs = some (.tree (.leaf E 1 xs))) (hn : n = xs.length) (hy : Src C s y 1 ys) (hm : min ys.length (n - l) = m) (hm0 : 0 < m) :
    OpD P C [i] o s ⟨(d, .val (.int .i64 (m : Int))) :: s.env, (i, .tree (.leaf E 1 (xs.take l ++ ys.take m ++ xs.drop (l + m)))) :: rm i s.objs⟩ := by
  intro ψ φ a w hF
  obtain ⟨g, cap, hφ, hv⟩ := hx.at_ hF hi hn (by omega)
  rcases hy ψ φ a w hF with ⟨_, rfl⟩ | ⟨ad, cap2, vs, hys, hfl, hcell⟩
  · simp at hm
    omega
  · have hvl : vs.length = ys.length := by rw [hfl.len, Nat.mul_one]
    have hcl : (vs.take m).length = m := by rw [List.length_take]; omega
    have hyl : (ys.take m).length = m := by rw [List.length_take]; omega
    have hget : ∀ (j : Nat) u, (vs.take m)[j]? = some u → vs[j]? = some u := fun j u h => by
      rw [List.getElem?_take] at h
      split at h
      · exact h
      · cases h
    obtain ⟨hnx, hncap, hgi, cur, hg, hcs, hF'⟩ := hF.splice1 (l := l) (us := vs.take m) (ys := ys.take m) hi hφ (by rw [hcl, hyl]) (by rw [hcl]; omega) (fun u hu => hfl.one u (List.mem_of_mem_take hu)) (fun z hz => hfl.sz_ z (List.mem_of_mem_take hz)) (fun j z b u hz hb hu => by
      rw [List.getElem?_take] at hz
      split at hz
      · obtain ⟨u', hu', hru⟩ := hfl.at_ j z 0 b hz hb
        have h1 := hget j u hu
        rw [Nat.mul_one, Nat.add_zero, h1] at hu'
        rw [Option.some.inj hu']
        exact hru
      · cases hz)
    have hrun := run_copy_row (P := P) w T T2 o.type E g l (n - l) (cap - l) ad ys.length cap2 cur E (vs.take m) hu hE hg (by rw [hcl]; exact hm.symm) (fun j v h => hcell j v (hget j v h)) (by rw [hcl, hcs]; omega) (fun u hu => hfl.one u (List.mem_of_mem_take hu))
    rw [hcl] at hrun hF'
    have hr : (execOp a.eval o).run P w = .ok (.value (goInt m)) (w.setRow g (cur.toList.take l ++ vs.take m ++ cur.toList.drop (l + m)).toArray) := by
      simp only [execOp, ho, resolve, invoke, builtin, Sem.run_bind, Sem.run_pure, Result.andThen_ok, List.map_toArray, List.map_cons, List.map_nil, hv, hys, hrun]
    unfold Oper.wp
    rw [hr, Oper.upon_value, hd]
    have hch := ch_setRow w g (cur.toList.take l ++ vs.take m ++ cur.toList.drop (l + m)).toArray hgi
    refine ⟨ψ, φ, hF'.put d _ _ hnd (.ro (.val _)), ⟨hch.os, hch.tape, hch.output, hch.size, fun k hk hno => hch.block k hk (fun h => hno ⟨i, _, by simp, hi, h⟩)⟩, fun j oj hj k hk => ?_⟩
    by_cases c : i = j
    · exact .inr (.inl ⟨_, c ▸ hi, hk⟩)
    · rw [lk_cons, if_neg c, lk_rm, if_neg c] at hj
      exact .inr (.inl ⟨oj, hj, hk⟩)
end
end Go.Proofs.YtmiijpobhajfmaaGreat.J
