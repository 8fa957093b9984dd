/- Parts of a small logic over the program, and walks in it. No statement of the seat is proved in this text. -/
import Derived.Test.YtmiijpobhajfmaaGreatML
namespace Go.Proofs.YtmiijpobhajfmaaGreat.J
open Go Go.RowKit
set_option linter.unusedVariables false
set_option linter.unusedSimpArgs false

/-- A nil slice in a variable is an owned row of rows. -/
theorem Le_adoptBN (C : Ctx) (s : AS) (b j i : Nat) (T : TypeId) (cs : List AV) (e : Nat) (hb : lk b s.objs = some (.box T cs)) (hj : cs[j]? = some (.val (.slice none 0 0))) (hi : lk i s.objs = none) (h2m : Nat.blt i 2000000 = true := by exact rfl) : Le C s ⟨s.env, (b, .box T (cs.set j (.own i []))) :: rm b ((i, .tree (.node e [])) :: s.objs)⟩ := by
  rintro a w ⟨ψ, φ, hF⟩
  have h1 := hF.new (Below.refl _ w) i (.tree (.node e [])) (.slice none 0 0) [] hi (nofix (small_tree h2m)) (fun k hk => by cases hk) (fun ok ids ψ' φ' _ _ => TreeAt.node e [] (.slice none 0 0) [] [] (World.ownsRow_nil w _ e 1) rfl (fun j t u f h => by simp at h) (by simp [blk]))
  have hne : i ≠ b := fun e => by rw [← e, hi] at hb; cases hb
  have hb' : lk b ((i, Obj.tree (.node e [])) :: s.objs) = some (.box T cs) := by rw [lk_cons, if_neg hne]; exact hb
  refine ⟨_, _, h1.upd b (.box T cs) (.box T (cs.set j (.own i []))) hb' ⟨rfl, rfl, rfl, Nat.le_refl _, fun _ _ _ => rfl⟩ (fun p h => h) rfl (fun p v _ h => h) (fun ok ids hok _ hmv => ?_)⟩
  have hx := h1.hp.objs b _ hb'
  obtain ⟨b', cur, e1, e2, e3, e4, e5, e6, e7⟩ := hx
  refine ⟨b', cur, e1, e2, e3, e4, by simpa using e5, e6, fun q av u hq hu => ?_⟩
  rw [List.getElem?_set] at hq
  by_cases c : j = q
  · subst c
    rw [if_pos rfl] at hq
    split at hq
    · obtain rfl := Option.some.inj hq
      have h2 := e7 j _ u hj hu
      have h3 : u = .slice none 0 0 := by
        cases h2 with
        | ro h => cases h; rfl
      subst h3
      refine .own i [] _ (hmv.id_ i [] (idsS_root _ _ _)) ?_
      show At _ _ _ _ _
      rw [ups_self, ups_self]
      rfl
    · cases hq
  · rw [if_neg c] at hq
    exact (e7 q av u hq hu).move (fun _ _ => rfl) hok hmv

/-- The first row of times for some cops. -/
def row0 (n : Nat) (cs : List Int) : List Int := (ints n).map (fun x => if cs.contains x = true then 0 else -1)
def set0 (n : Nat) (cs : List Int) : List Int := cs.foldl (fun r c => r.set c.toNat 0) (List.replicate n (-1))
theorem row0_len (n : Nat) (cs : List Int) : (row0 n cs).length = n := by simp [row0, ints_length]
theorem set0_snoc {n : Nat} {cs : List Int} {j : Nat} (h : j < cs.length) : set0 n (cs.take (j + 1)) = (set0 n (cs.take j)).set (gi cs j).toNat 0 := by
  rw [take_gi h, set0, List.foldl_append]; rfl
theorem set0_len (n : Nat) : ∀ cs : List Int, (set0 n cs).length = n := by
  intro cs
  unfold set0
  generalize hr : List.replicate n (-1 : Int) = r
  have h0 : r.length = n := by rw [← hr]; simp
  clear hr
  induction cs generalizing r with
  | nil => exact h0
  | cons c cs ih => rw [List.foldl_cons]; exact ih _ (by simpa using h0)
theorem gi_ints_at {α : Type} [Inhabited α] {n x : Nat} {f : Int → α} (h : x < n) : gi ((ints n).map f) (x : Int) = f x := gi_ints (by omega)
theorem ext_gi {l m : List Int} (hl : l.length = m.length) (h : ∀ x : Nat, x < l.length → gi l (x : Int) = gi m (x : Int)) : l = m := by
  apply List.ext_getElem hl
  intro x h1 h2
  have := h x h1
  rwa [gi_natG h1, gi_natG h2] at this
theorem ext_giL {l m : List (List Int)} (hl : l.length = m.length) (h : ∀ x : Nat, x < l.length → gi l (x : Int) = gi m (x : Int)) : l = m := by
  apply List.ext_getElem hl
  intro x h1 h2
  have := h x h1
  rwa [gi_natG h1, gi_natG h2] at this
theorem set0_row {n : Nat} {cs : List Int} (hc : ∀ c ∈ cs, 0 ≤ c ∧ c < n) : set0 n cs = row0 n cs := by
  refine ext_gi (by rw [set0_len, row0_len]) (fun x hx => ?_)
  rw [set0_len] at hx
  rw [row0, gi_ints_at hx]
  have key : ∀ (cs : List Int) (r : List Int), r.length = n → (∀ c ∈ cs, 0 ≤ c ∧ c < n) → gi (cs.foldl (fun r c => r.set c.toNat 0) r) (x : Int) = if cs.contains (x : Int) = true then 0 else gi r (x : Int) := by
    intro cs
    induction cs with
    | nil => intro r _ _; simp
    | cons c cs ih =>
      intro r hr h
      have hc := h c (by simp)
      rw [List.foldl_cons, ih _ (by simpa using hr) (fun y hy => h y (by simp [hy])), gi_setG (by omega)]
      by_cases e : (x : Int) ∈ cs
      · simp [e]
      · by_cases e2 : c.toNat = x
        · have : c = (x : Int) := by omega
          simp [e2, this]
        · have : ¬ ((x : Int) = c) := by omega
          simp [e, e2, this]
  have := key cs (List.replicate n (-1)) (by simp) hc
  unfold set0
  rw [this]
  have e : gi (List.replicate n (-1 : Int)) (x : Int) = -1 := by rw [gi_natG (by simpa using hx)]; simp
  rw [e]

/-! ### Tables of times -/
section
variable (cn : List (List Int) → Int → Int → Bool) (M n : Nat)
def vB (tbl : List (List Int)) (c x : Int) : Bool := decide (gi (gi tbl c) x < 0) && cn tbl c x
def stepV (tbl : List (List Int)) (t : Int) (c x : Int) : Int := if vB cn tbl c x = true then t else gi (gi tbl c) x
def stepT (tbl : List (List Int)) (t : Int) : List (List Int) := (List.range M).map (fun (c : Nat) => (ints n).map (fun x => stepV cn tbl t c x))
def frC (tbl : List (List Int)) (c : Nat) : List (Int × Int) := ((ints n).filter (fun x => vB cn tbl c x)).map (fun x => ((c : Int), x))
def frA (tbl : List (List Int)) : List (Int × Int) := (List.range M).flatMap (frC cn n tbl)
def TF : Nat → List (List Int) → Int → List (List Int)
  | 0, tbl, _ => tbl
  | f + 1, tbl, t => if (frA cn M n tbl).length = 0 then tbl else TF f (stepT cn M n tbl t) (t + 1)
end
def negR (r : List Int) : Nat := (r.filter (fun v => decide (v < 0))).length
def negs (tbl : List (List Int)) : Nat := (tbl.map negR).sum
structure okT (M n : Nat) (b : Int) (tbl : List (List Int)) : Prop where
  len : tbl.length = M
  row : ∀ r ∈ tbl, r.length = n
  lo : ∀ r ∈ tbl, ∀ v ∈ r, -1 ≤ v ∧ v ≤ b
section
variable {cn : List (List Int) → Int → Int → Bool} {M n : Nat}
theorem frA_mem {tbl : List (List Int)} {p : Int × Int} : p ∈ frA cn M n tbl ↔ (0 ≤ p.1 ∧ p.1 < M) ∧ (0 ≤ p.2 ∧ p.2 < n) ∧ vB cn tbl p.1 p.2 = true := by
  simp only [frA, frC, List.mem_flatMap, List.mem_range, List.mem_map, List.mem_filter, ints_mem]
  constructor
  · rintro ⟨c, hc, x, ⟨hx, hv⟩, rfl⟩
    exact ⟨⟨by simp, by simp; exact hc⟩, hx, hv⟩
  · rintro ⟨h1, h2, h3⟩
    refine ⟨p.1.toNat, by omega, p.2, ⟨h2, ?_⟩, ?_⟩
    · rwa [show ((p.1.toNat : Nat) : Int) = p.1 by omega]
    · rw [show ((p.1.toNat : Nat) : Int) = p.1 by omega]
theorem stepT_len (tbl : List (List Int)) (t : Int) : (stepT cn M n tbl t).length = M := by simp [stepT]
theorem stepT_gi {tbl : List (List Int)} {t : Int} {c : Nat} (hc : c < M) : gi (stepT cn M n tbl t) (c : Int) = (ints n).map (fun x => stepV cn tbl t c x) := by
  rw [gi_natG (by rw [stepT_len]; exact hc)]; simp [stepT]
theorem stepT_id {tbl : List (List Int)} {t b : Int} (h : okT M n b tbl) (he : (frA cn M n tbl).length = 0) : stepT cn M n tbl t = tbl := by
  refine ext_giL (by rw [stepT_len, h.len]) (fun c hc => ?_)
  rw [stepT_len] at hc
  rw [stepT_gi hc]
  have hr : (gi tbl (c : Int)).length = n := h.row _ (gi_mem (by rw [h.len]; omega))
  refine ext_gi (by rw [List.length_map, ints_length, hr]) (fun x hx => ?_)
  rw [List.length_map, ints_length] at hx
  rw [gi_ints_at hx, stepV, if_neg]
  intro hv
  have hm : ((c : Int), (x : Int)) ∈ frA cn M n tbl := frA_mem.2 ⟨by simp; exact hc, by simp; exact hx, hv⟩
  rw [List.eq_nil_of_length_eq_zero he] at hm
  cases hm
theorem stepT_ok {tbl : List (List Int)} {t b b' : Int} (h : okT M n b tbl) (h0 : 0 ≤ t) (hb : b ≤ b') (ht : t ≤ b') : okT M n b' (stepT cn M n tbl t) := by
  refine ⟨stepT_len _ _, fun r hr => ?_, fun r hr v hv => ?_⟩
  · obtain ⟨c, _, rfl⟩ := List.mem_map.1 hr
    rw [List.length_map, ints_length]
  · obtain ⟨c, hc, rfl⟩ := List.mem_map.1 hr
    obtain ⟨x, hx, rfl⟩ := List.mem_map.1 hv
    rw [List.mem_range] at hc
    unfold stepV
    split
    · omega
    · have hm : gi tbl (c : Int) ∈ tbl := gi_mem (by rw [h.len]; omega)
      have hxb := ints_mem.1 hx
      have := h.lo _ hm _ (gi_memI (l := gi tbl (c : Int)) (x := x) (by rw [h.row _ hm]; omega))
      omega
theorem sum_le {α : Type} (f g : α → Nat) : ∀ (l : List α), (∀ x ∈ l, f x ≤ g x) → (l.map f).sum ≤ (l.map g).sum
  | [], _ => Nat.le_refl _
  | a :: r, h => by
    have h1 := sum_le f g r (fun x hx => h x (by simp [hx]))
    have h2 := h a (by simp)
    simp only [List.map_cons, List.sum_cons]; omega
theorem sum_lt {α : Type} (f g : α → Nat) : ∀ (l : List α), (∀ x ∈ l, f x ≤ g x) → (∃ x ∈ l, f x < g x) → (l.map f).sum < (l.map g).sum
  | [], _, h => by obtain ⟨x, hx, _⟩ := h; cases hx
  | a :: r, h, he => by
    have h1 := sum_le f g r (fun x hx => h x (by simp [hx]))
    have h2 := h a (by simp)
    simp only [List.map_cons, List.sum_cons]
    obtain ⟨x, hx, hlt⟩ := he
    rcases List.mem_cons.1 hx with rfl | hx
    · omega
    · have h3 := sum_lt f g r (fun x hx => h x (by simp [hx])) ⟨x, hx, hlt⟩
      omega
theorem map_range_gi {l : List (List Int)} : l = (List.range l.length).map (fun (c : Nat) => gi l (c : Int)) := by
  apply List.ext_getElem (by simp)
  intro i h1 h2
  simp [gi_natG h1]
theorem map_ints_gi {l : List Int} : l = (ints l.length).map (fun x => gi l x) := by
  apply List.ext_getElem (by simp [ints_length])
  intro i h1 h2
  simp [ints, gi_natG h1]
theorem filter_len_sum {α : Type} (p : α → Bool) : ∀ l : List α, (l.filter p).length = (l.map (fun x => if p x = true then 1 else 0)).sum
  | [] => rfl
  | a :: r => by
    have h := filter_len_sum p r
    rw [List.filter_cons]
    split
    · rename_i hp; simp [hp, h]; omega
    · rename_i hp; simp [hp, h]
theorem negR_map (f : Int → Int) (n : Nat) : negR ((ints n).map f) = ((ints n).map (fun x => if f x < 0 then 1 else 0)).sum := by
  unfold negR
  rw [filter_len_sum, List.map_map]
  congr 1
  apply List.map_congr_left
  intro x _
  simp
theorem ite_le1 (p : Prop) [Decidable p] : (if p then 1 else 0) ≤ 1 := by split <;> omega
theorem negs_step {tbl : List (List Int)} {t b : Int} (h : okT M n b tbl) (h0 : 0 < t) (he : (frA cn M n tbl).length ≠ 0) : negs (stepT cn M n tbl t) < negs tbl := by
  obtain ⟨p, hp⟩ := List.exists_mem_of_length_pos (Nat.pos_of_ne_zero he)
  obtain ⟨h1, h2, h3⟩ := frA_mem.1 hp
  have e1 : negs (stepT cn M n tbl t) = ((List.range M).map (fun (c : Nat) => ((ints n).map (fun x => if stepV cn tbl t c x < 0 then 1 else 0)).sum)).sum := by
    unfold negs stepT
    rw [List.map_map]
    congr 1
    apply List.map_congr_left
    intro c _
    exact negR_map _ _
  have e2 : negs tbl = ((List.range M).map (fun (c : Nat) => ((ints n).map (fun x => if gi (gi tbl (c : Int)) x < 0 then 1 else 0)).sum)).sum := by
    unfold negs
    conv => lhs; rw [map_range_gi (l := tbl), List.map_map, h.len]
    congr 1
    apply List.map_congr_left
    intro c hc
    rw [List.mem_range] at hc
    have hr : (gi tbl (c : Int)).length = n := h.row _ (gi_mem (by rw [h.len]; omega))
    show negR (gi tbl (c : Int)) = _
    conv => lhs; rw [map_ints_gi (l := gi tbl (c : Int)), hr]
    exact negR_map _ _
  have le1 : ∀ (c : Nat) (x : Int), (if stepV cn tbl t c x < 0 then 1 else 0) ≤ (if gi (gi tbl (c : Int)) x < 0 then 1 else 0) := by
    intro c x
    unfold stepV vB
    by_cases c1 : gi (gi tbl (c : Int)) x < 0
    · rw [if_pos c1]; exact ite_le1 _
    · rw [if_neg c1, if_neg (by simp [c1])]
      simp [c1]
  rw [e1, e2]
  refine sum_lt _ _ _ (fun c _ => sum_le _ _ _ (fun x _ => le1 c x)) ⟨p.1.toNat, by rw [List.mem_range]; omega, ?_⟩
  refine sum_lt _ _ _ (fun x _ => le1 _ x) ⟨p.2, ints_mem.2 h2, ?_⟩
  have ep : ((p.1.toNat : Nat) : Int) = p.1 := by omega
  rw [ep]
  have hneg : gi (gi tbl p.1) p.2 < 0 := by
    unfold vB at h3
    simp only [Bool.and_eq_true, decide_eq_true_eq] at h3
    exact h3.1
  unfold stepV
  rw [if_pos h3, if_pos hneg, if_neg (by omega)]
  decide
theorem TF_fuel {b : Int} : ∀ (f g : Nat) (tbl : List (List Int)) (t : Int), okT M n b tbl → 0 < t → (t + negs tbl ≤ b) → negs tbl < f → negs tbl < g → TF cn M n f tbl t = TF cn M n g tbl t
  | 0, _, _, _, _, _, _, h, _ => by omega
  | _, 0, _, _, _, _, _, _, h => by omega
  | f + 1, g + 1, tbl, t, h, h0, hb, hf, hg => by
    simp only [TF]
    by_cases he : (frA cn M n tbl).length = 0
    · rw [if_pos he, if_pos he]
    · rw [if_neg he, if_neg he]
      have h1 := negs_step (cn := cn) h h0 he
      exact TF_fuel f g _ _ (stepT_ok h (by omega) (Int.le_refl _) (by omega)) (by omega) (by omega) (by omega) (by omega)
/-- One number after the other. -/
def tset (t : Int) (tb : List (List Int)) (p : Int × Int) : List (List Int) := tb.set p.1.toNat ((gi tb p.1).set p.2.toNat t)
theorem tset_gi {t b : Int} {tb : List (List Int)} (hl : tb.length = M) (hrow : ∀ r ∈ tb, r.length = n) {p : Int × Int} (hp : (0 ≤ p.1 ∧ p.1 < M) ∧ 0 ≤ p.2 ∧ p.2 < n) :
    (tset t tb p).length = M ∧ (∀ r ∈ tset t tb p, r.length = n) ∧ ∀ c x : Nat, c < M → x < n → gi (gi (tset t tb p) (c : Int)) (x : Int) = if ((c : Int), (x : Int)) = p then t else gi (gi tb (c : Int)) (x : Int) := by
  obtain ⟨a, q⟩ := p
  obtain ⟨a, rfl⟩ : ∃ k : Nat, a = k := ⟨a.toNat, by have := hp.1.1; simp only [] at this; omega⟩
  obtain ⟨q, rfl⟩ : ∃ k : Nat, q = k := ⟨q.toNat, by have := hp.2.1; simp only [] at this; omega⟩
  simp only [] at hp
  have hra : (gi tb (a : Int)).length = n := hrow _ (gi_mem (by omega))
  unfold tset
  simp only [Int.toNat_natCast]
  refine ⟨by rw [List.length_set, hl], fun r hr => ?_, fun c x hc hx => ?_⟩
  · rcases List.mem_or_eq_of_mem_set hr with h | rfl
    · exact hrow r h
    · rw [List.length_set, hra]
  · rw [gi_setG (by omega)]
    by_cases e : a = c
    · subst e
      rw [if_pos rfl, gi_setG (by omega)]
      by_cases e2 : q = x
      · subst e2; simp
      · rw [if_neg e2, if_neg]
        intro h; simp only [Prod.mk.injEq] at h; omega
    · rw [if_neg e, if_neg]
      intro h; simp only [Prod.mk.injEq] at h; omega
theorem tset_fold {t : Int} : ∀ (l : List (Int × Int)) (tb : List (List Int)), tb.length = M → (∀ r ∈ tb, r.length = n) → (∀ p ∈ l, (0 ≤ p.1 ∧ p.1 < M) ∧ 0 ≤ p.2 ∧ p.2 < n) →
    (l.foldl (tset t) tb).length = M ∧ (∀ r ∈ l.foldl (tset t) tb, r.length = n) ∧ ∀ c x : Nat, c < M → x < n → gi (gi (l.foldl (tset t) tb) (c : Int)) (x : Int) = if ((c : Int), (x : Int)) ∈ l then t else gi (gi tb (c : Int)) (x : Int)
  | [], tb, hl, hr, _ => ⟨hl, hr, fun c x _ _ => by simp⟩
  | p :: l, tb, hl, hr, h => by
    obtain ⟨h1, h2, h3⟩ := tset_gi (t := t) (b := t) hl hr (h p (by simp))
    obtain ⟨g1, g2, g3⟩ := tset_fold (t := t) l _ h1 h2 (fun q hq => h q (by simp [hq]))
    refine ⟨g1, g2, fun c x hc hx => ?_⟩
    rw [List.foldl_cons, g3 c x hc hx, h3 c x hc hx]
    by_cases e : ((c : Int), (x : Int)) ∈ l
    · simp [e]
    · by_cases e2 : ((c : Int), (x : Int)) = p
      · simp [e2]
      · simp [e, e2]
theorem tset_all {tbl : List (List Int)} {t b : Int} (h : okT M n b tbl) : (frA cn M n tbl).foldl (tset t) tbl = stepT cn M n tbl t := by
  obtain ⟨h1, h2, h3⟩ := tset_fold (t := t) (frA cn M n tbl) tbl h.len h.row (fun p hp => by have := frA_mem.1 hp; exact ⟨this.1, this.2.1⟩)
  generalize (frA cn M n tbl).foldl (tset t) tbl = T at h1 h2 h3 ⊢
  refine ext_giL (by rw [h1, stepT_len]) (fun c hc => ?_)
  rw [h1] at hc
  rw [stepT_gi hc]
  have hr : (gi T (c : Int)).length = n := h2 _ (gi_mem (by omega))
  refine ext_gi (by rw [hr, List.length_map, ints_length]) (fun x hx => ?_)
  rw [hr] at hx
  rw [h3 c x hc hx, gi_ints_at hx, stepV]
  by_cases e : vB cn tbl (c : Int) (x : Int) = true
  · have hm : ((c : Int), (x : Int)) ∈ frA cn M n tbl := frA_mem.2 ⟨⟨by simp, by simpa using hc⟩, ⟨by simp, by simpa using hx⟩, e⟩
    simp only [hm, e, if_true]
  · have hm : ¬ ((c : Int), (x : Int)) ∈ frA cn M n tbl := fun hm => e (frA_mem.1 hm).2.2
    simp [hm, e]
end
end Go.Proofs.YtmiijpobhajfmaaGreat.J
namespace Go.Proofs.YtmiijpobhajfmaaGreat.J
open Go Go.RowKit
set_option maxRecDepth 20000
set_option linter.unusedVariables false
set_option linter.unusedSimpArgs false

def cnI (n k : Nat) (es : List (Int × Int)) (tbl : List (List Int)) (c x : Int) : Bool := (gi ((cfgL n k).map (mvL n es (cfgL n k))) c).any (canB (netW n es) (cfgL n k) tbl x)
def tbl0 (n k : Nat) : List (List Int) := (cfgL n k).map (row0 n)
/-- The times of all situations. -/
def ttI (n k : Nat) (es : List (Int × Int)) : List (List Int) := TF (cnI n k es) (cfgL n k).length n (negs (tbl0 n k) + 1) (tbl0 n k) 1
theorem tbl0_ok (n k : Nat) : okT (cfgL n k).length n 0 (tbl0 n k) := by
  refine ⟨by simp [tbl0], fun r hr => ?_, fun r hr v hv => ?_⟩
  · obtain ⟨c, _, rfl⟩ := List.mem_map.1 hr; exact row0_len n c
  · obtain ⟨c, _, rfl⟩ := List.mem_map.1 hr
    obtain ⟨x, _, rfl⟩ := List.mem_map.1 hv
    split <;> omega
theorem negs_le {M n : Nat} : ∀ (tbl : List (List Int)), (∀ r ∈ tbl, r.length = n) → negs tbl ≤ tbl.length * n
  | [], _ => by simp [negs]
  | r :: l, h => by
    have h1 := negs_le (M := M) (n := n) l (fun x hx => h x (by simp [hx]))
    have h2 : negR r ≤ n := by rw [← h r (by simp)]; exact List.length_filter_le _ _
    simp only [negs, List.map_cons, List.sum_cons, List.length_cons, Nat.add_mul, Nat.one_mul] at h1 ⊢
    omega
theorem fr_next {cn : List (List Int) → Int → Int → Bool} {n : Nat} {tbl : List (List Int)} {c : Nat} : (List.range (c + 1)).flatMap (frC cn n tbl) = (List.range c).flatMap (frC cn n tbl) ++ frC cn n tbl c := by
  rw [List.range_succ, List.flatMap_append]; simp
theorem fr_bd {cn : List (List Int) → Int → Int → Bool} {n : Nat} {tbl : List (List Int)} : ∀ c : Nat, ((List.range c).flatMap (frC cn n tbl)).length ≤ c * n
  | 0 => by simp
  | c + 1 => by
    rw [fr_next, List.length_append]
    have h1 := fr_bd (cn := cn) (n := n) (tbl := tbl) c
    have h2 : (frC cn n tbl c).length ≤ n := by
      unfold frC
      rw [List.length_map]
      exact Nat.le_trans (List.length_filter_le _ _) (by rw [ints_length]; exact Nat.le_refl _)
    rw [Nat.add_mul]; omega
theorem filt_snoc {p : Int → Bool} {y : Nat} : (ints (y + 1)).filter p = (ints y).filter p ++ (if p (y : Int) = true then [(y : Int)] else []) := by
  rw [ints_succ, List.filter_append]
  by_cases h : p (y : Int) = true
  · simp [h]
  · simp [h]
theorem vB_t {cn : List (List Int) → Int → Int → Bool} {tbl : List (List Int)} {c x : Int} (h1 : gi (gi tbl c) x < 0) (h2 : cn tbl c x = true) : vB cn tbl c x = true := by unfold vB; rw [h2]; simp [h1]
theorem vB_f {cn : List (List Int) → Int → Int → Bool} {tbl : List (List Int)} {c x : Int} (h2 : cn tbl c x = false) : ¬ vB cn tbl c x = true := by unfold vB; rw [h2]; simp
theorem vB_n {cn : List (List Int) → Int → Int → Bool} {tbl : List (List Int)} {c x : Int} (h1 : ¬ gi (gi tbl c) x < 0) : ¬ vB cn tbl c x = true := by unfold vB; simp [h1]
theorem step_TT {n k : Nat} {es : List (Int × Int)} {t : Nat} {tbl : List (List Int)} (h : okT (cfgL n k).length n (t : Int) tbl) (hT : TF (cnI n k es) (cfgL n k).length n (negs tbl + 1) tbl ((t : Int) + 1) = ttI n k es) :
    (decide (0 < (frA (cnI n k es) (cfgL n k).length n tbl).length) = true → TF (cnI n k es) (cfgL n k).length n (negs (stepT (cnI n k es) (cfgL n k).length n tbl ((t : Int) + 1)) + 1) (stepT (cnI n k es) (cfgL n k).length n tbl ((t : Int) + 1)) (((t + 1 : Nat) : Int) + 1) = ttI n k es) ∧
    (decide (0 < (frA (cnI n k es) (cfgL n k).length n tbl).length) = false → stepT (cnI n k es) (cfgL n k).length n tbl ((t : Int) + 1) = ttI n k es) := by
  simp only [TF] at hT
  constructor
  · intro hp
    have hp := of_decide_eq_true hp
    rw [if_neg (by omega)] at hT
    rw [← hT]
    have h1 := negs_step (cn := cnI n k es) h (show (0 : Int) < (t : Int) + 1 by omega) (by omega)
    exact TF_fuel (b := (t : Int) + 2 + negs (stepT (cnI n k es) (cfgL n k).length n tbl ((t : Int) + 1))) _ _ _ _ (stepT_ok h (by omega) (by omega) (by omega)) (by omega) (by omega) (by omega) (by omega)
  · intro hp
    have hp := of_decide_eq_false hp
    rw [if_pos (by omega)] at hT
    rw [stepT_id h (by omega)]; exact hT

theorem CopGame_spec (n k : Nat) (es : List (Int × Int)) (hG : goodG (n : Int) es = true) (hn1 : 1 ≤ n) (hk : k ≤ 3) : Spec Tryz.prog 68 [Net (netW n es), I (k : Int)] (.ref [L (netW n es), LL (cfgL n k), LL ((cfgL n k).map (mvL n es (cfgL n k))), LL (ttI n k es)]) [] := by
  refine Spec.intro (c := _) Tryz.func68 rfl (Nat.le_of_ble_eq_true rfl) (fun C hC hfx => ?_)
  have hn : C.n = 113 := hC
  refine (show J _ _ _ _ (⟨[(0, Net (netW n es)), (1, I (k : Int))], []⟩ : AS) from ?_)
  have hn8 := good_n hG
  have hwl := netW_len n es
  have hcl := cfg_len3 hn8 hk
  have hcm := cfg_mem n k
  refine J_seq ?_
  refine J_region ?_
  refine jl_o rfl (op_box_agg rfl rfl (ltn hn rfl) rfl rfl rfl) ?_
  refine jl rfl rfl (ltn hn rfl) (pure_assign rfl rfl) ?_
  refine JL_nil ?_
  refine J_seq ?_
  refine J_region ?_
  refine jl rfl rfl (ltn hn rfl) (p_ld_ba rfl rfl rfl (Nat.le_of_ble_eq_true rfl) rfl) ?_
  refine jl rfl rfl (ltn hn rfl) (pure_move rfl rfl) ?_
  refine jl_o rfl (@op_call _ _ _ _ _ _ [.tmp 20, .tmp 21] _ _ _ _ _ (CopBoard_spec n k es hG hk) rfl Tryz.func108 rfl rfl rfl (ltn hn rfl) ⟨rfl, rfl, ⟨rfl, rfl, trivial⟩⟩ rfl rfl) ?_
  refine jl rfl rfl (ltn hn rfl) (pure_assign rfl rfl) ?_
  refine JL_nil ?_
  refine J_seq ?_
  refine J_seq ?_
  refine J_region ?_
  refine jl rfl rfl (ltn hn rfl) (pure_move rfl rfl) ?_
  refine jl rfl rfl (ltn hn rfl) (pure_nilCheck_box rfl rfl) ?_
  refine jl rfl rfl (ltn hn rfl) (p_fld_b rfl rfl rfl) ?_
  refine jl rfl rfl (ltn hn rfl) (p_ld_b rfl rfl rfl rfl) ?_
  refine jl rfl rfl (ltn hn rfl) (p_len_m rfl rfl) ?_
  refine jl rfl rfl (ltn hn rfl) (pure_move rfl rfl) ?_
  refine JL_nil ?_
  refine J_block ?_
  refine J_le (Le_adoptBN C _ 17022 3 8 _ _ 37 rfl rfl rfl) ?_
  refine J_loop (X := Nat) (fun i => ⟨[(2, .box 2 0), (5, .box 17022 0), (26, LL (cfgL n k)), (27, I ((cfgL n k).length : Int)), (28, I (i : Nat))], [(2, .box 62 [L (netW n es)]), (17022, .box 77 [L (netW n es), LL (cfgL n k), LL ((cfgL n k).map (mvL n es (cfgL n k))), .own 8 []]), (8, Nd 37 (lf 3 1 cI) (((cfgL n k).take i).map (row0 n)))]⟩) (fun i => i ≤ (cfgL n k).length) (fun i => (cfgL n k).length - i) 0 ?_ ?_ ?_
  · omega
  ·
    refine Le_sub C _ _ ⟨rfl, ⟨rfl, ⟨rfl, ⟨rfl, ⟨rfl, trivial⟩⟩⟩⟩⟩ ⟨rfl, ⟨rfl, ⟨rfl, trivial⟩⟩⟩ rfl rfl
  ·
    intro i hi
    refine J_seq ?_
    refine J_region ?_
    refine jl rfl rfl (ltn hn rfl) (pure_lss rfl rfl rfl) ?_
    refine JL_nil ?_
    refine J_seq ?_
    refine J_cond_p rfl (fun h1 => ?_) (fun h1 => ?_)
    ·
      have hcc := hcm _ (gi_mem (l := (cfgL n k)) (i := i) (by omega))
      refine J_skip ?_
      refine J_seq ?_
      refine J_block ?_
      refine J_seq ?_
      refine J_region ?_
      refine jl rfl rfl (ltn hn rfl) (p_idx rfl rfl rfl (by omega) (mget (by omega))) ?_
      refine jl rfl rfl (ltn hn rfl) (p_ld rfl rfl rfl) ?_
      refine jl rfl rfl (ltn hn rfl) (pure_assign rfl rfl) ?_
      refine JL_nil ?_
      refine J_seq ?_
      refine J_region ?_
      refine jl_o rfl (@op_lit1 _ _ _ _ _ cI _ _ _ _ _ _ _ SlT.slk rfl rfl (ltn hn rfl) rfl rfl rfl rfl rfl) ?_
      refine jl rfl rfl (ltn hn rfl) (p_ld_ba rfl rfl rfl (Nat.le_of_ble_eq_true rfl) rfl) ?_
      refine jl_o rfl (@op_call _ _ _ _ _ _ [.tmp 33] _ _ _ _ _ (SizeN_spec n es) rfl Tryz.func114 rfl rfl rfl (ltn hn rfl) ⟨rfl, rfl, trivial⟩ rfl rfl) ?_
      refine jl_o rfl (op_callE (callsB (Repeat_spec (-1) n hn1 hn8) (enters_fn (args := [.tmp 32, .tmp 34]) rfl Tryz.func113 rfl rfl (evA_c rfl (evA_c rfl evA_n))) (.cons (.own _ _ _ _ _ rfl rfl rfl) (.cons (.ro _ rfl) .nil)) rfl ⟨plR (pl_cI _), trivial⟩) rfl (ltn hn rfl) rfl rfl) ?_
      refine jl rfl rfl (ltn hn rfl) (pure_assign rfl rfl) ?_
      refine JL_nil ?_
      refine J_seq ?_
      refine J_seq ?_
      refine J_region ?_
      refine jl rfl rfl (ltn hn rfl) (pure_move rfl rfl) ?_
      refine jl rfl rfl (ltn hn rfl) (p_len_m rfl rfl) ?_
      refine jl rfl rfl (ltn hn rfl) (pure_move rfl rfl) ?_
      refine JL_nil ?_
      refine J_block ?_
      refine J_loop (X := Nat) (fun j => ⟨[(2, .box 2 0), (5, .box 17022 0), (8, .own 30035 []), (26, LL (cfgL n k)), (27, I ((cfgL n k).length : Int)), (28, I (i : Nat)), (36, L (gi (cfgL n k) i)), (37, I ((gi (cfgL n k) i).length : Int)), (38, I (j : Nat))], [(2, .box 62 [L (netW n es)]), (17022, .box 77 [L (netW n es), LL (cfgL n k), LL ((cfgL n k).map (mvL n es (cfgL n k))), .own 8 []]), (8, Nd 37 (lf 3 1 cI) (((cfgL n k).take i).map (row0 n))), (30035, Ow 3 1 cI (set0 n ((gi (cfgL n k) i).take j)))]⟩) (fun j => j ≤ (gi (cfgL n k) i).length) (fun j => (gi (cfgL n k) i).length - j) 0 ?_ ?_ ?_
      · omega
      ·
        refine Le_sub C _ _ ⟨rfl, ⟨rfl, ⟨rfl, ⟨rfl, ⟨rfl, ⟨rfl, ⟨rfl, ⟨rfl, ⟨rfl, trivial⟩⟩⟩⟩⟩⟩⟩⟩⟩ ⟨rfl, ⟨rfl, ⟨rfl, ⟨rfl, trivial⟩⟩⟩⟩ rfl rfl
      ·
        intro j hj
        refine J_seq ?_
        refine J_region ?_
        refine jl rfl rfl (ltn hn rfl) (pure_lss rfl rfl rfl) ?_
        refine JL_nil ?_
        refine J_seq ?_
        refine J_cond_p rfl (fun h2 => ?_) (fun h2 => ?_)
        ·
          have hcj := hcc.2 _ (gi_mem (l := gi (cfgL n k) i) (i := j) (by omega))
          have hs0 := set0_len n ((gi (cfgL n k) i).take j)
          refine J_skip ?_
          refine J_seq ?_
          refine J_block ?_
          refine J_seq ?_
          refine J_region ?_
          refine jl rfl rfl (ltn hn rfl) (p_idx rfl rfl rfl (by omega) (mget (by omega))) ?_
          refine jl rfl rfl (ltn hn rfl) (p_ld rfl rfl rfl) ?_
          refine jl rfl rfl (ltn hn rfl) (pure_assign rfl rfl) ?_
          refine JL_nil ?_
          refine J_region ?_
          refine jl rfl rfl (ltn hn rfl) (pure_move rfl rfl) ?_
          refine jl rfl rfl (ltn hn rfl) (pure_move rfl rfl) ?_
          refine jl rfl rfl (ltn hn rfl) (p_idx_own_m rfl rfl rfl rfl (by omega) (by omega)) ?_
          refine jl_o rfl (@op_store_row_m _ _ _ _ _ cI _ _ _ _ _ _ _ _ _ SzT.out rfl rfl rfl rfl rfl rfl rfl rfl (fun _ => rfl) (by omega)) ?_
          refine JL_nil ?_
          refine J_region ?_
          refine jl rfl rfl (ltn hn rfl) (pure_add rfl rfl rfl (by omega)) ?_
          refine jl rfl rfl (ltn hn rfl) (pure_move rfl rfl) ?_
          refine JL_nil ?_
          refine ⟨j + 1, ?_, ?_, ?_⟩
          · omega
          · omega
          ·
            refine Le_sub C _ _ ⟨rfl, ⟨rfl, ⟨rfl, ⟨rfl, ⟨rfl, ⟨rfl, ⟨rfl, ⟨rfl, ⟨(eqv rfl (vi (by omega))), trivial⟩⟩⟩⟩⟩⟩⟩⟩⟩ ⟨rfl, ⟨rfl, ⟨rfl, ⟨(eqv rfl (by rw [set0_snoc (by omega)])), trivial⟩⟩⟩⟩ rfl rfl
        ·
          refine J_exit ?_
          refine J_region ?_
          refine jl rfl rfl (ltn hn rfl) (pure_move rfl rfl) ?_
          refine jl rfl rfl (ltn hn rfl) (pure_move rfl rfl) ?_
          refine jl rfl rfl (ltn hn rfl) (pure_nilCheck_box rfl rfl) ?_
          refine jl rfl rfl (ltn hn rfl) (p_fld_b rfl rfl rfl) ?_
          refine jl rfl rfl (ltn hn rfl) (p_ld_b rfl rfl rfl rfl) ?_
          refine jl rfl rfl (ltn hn rfl) (pure_move rfl rfl) ?_
          refine jl_o rfl (op_lit_node_m (f := lf 3 1 cI) SlT.slk rfl rfl (ltn hn rfl) rfl rfl) ?_
          refine jl_o rfl (op_append_node_m SlT.slk rfl rfl (ltn hn rfl) rfl rfl rfl rfl rfl (by first | omega | (simp only [List.length_append, List.length_cons, List.length_nil, List.length_take, List.length_drop, List.length_map]; omega)) (by first | omega | (simp only [List.length_append, List.length_cons, List.length_nil, List.length_take, List.length_drop, List.length_map]; omega))) ?_
          refine jl rfl rfl (ltn hn rfl) (pure_nilCheck_box rfl rfl) ?_
          refine jl rfl rfl (ltn hn rfl) (p_fld_b rfl rfl rfl) ?_
          refine jl_o rfl (op_store_box rfl rfl SzT.out rfl rfl (by exact Nat.le_of_ble_eq_true rfl) rfl rfl) ?_
          refine JL_nil ?_
          refine J_region ?_
          refine jl rfl rfl (ltn hn rfl) (pure_add rfl rfl rfl (by omega)) ?_
          refine jl rfl rfl (ltn hn rfl) (pure_move rfl rfl) ?_
          refine JL_nil ?_
          refine ⟨i + 1, ?_, ?_, ?_⟩
          · omega
          · omega
          ·
            refine Le_sub C _ _ ⟨rfl, ⟨rfl, ⟨rfl, ⟨rfl, ⟨(eqv rfl (vi (by omega))), trivial⟩⟩⟩⟩⟩ ⟨rfl, ⟨rfl, ⟨(eqv rfl (by rw [take_gi (l := (cfgL n k)) (i := i) (by omega), List.map_append, take_all (l := gi (cfgL n k) i) (i := j) (by omega), set0_row hcc.2]; rfl)), trivial⟩⟩⟩ rfl rfl
    ·
      refine J_exit ?_
      refine J_seq ?_
      refine J_seq ?_
      refine J_region ?_
      refine jl rfl rfl (ltn hn rfl) (pure_assign rfl rfl) ?_
      refine jl rfl rfl (ltn hn rfl) (pure_assign rfl rfl) ?_
      refine JL_nil ?_
      refine J_block ?_
      have htb : (cfgL n k).take i = (cfgL n k) := take_all h1
      refine J_loop (X := Nat × List (List Int) × Bool) (fun z => ⟨[(2, .box 2 0), (5, .box 17022 0), (11, I ((z.1 : Int) + 1)), (12, B z.2.2)], [(2, .box 62 [L (netW n es)]), (17022, .box 77 [L (netW n es), LL (cfgL n k), LL ((cfgL n k).map (mvL n es (cfgL n k))), .own 8 []]), (8, Nd 37 (lf 3 1 cI) z.2.1)]⟩) (fun z => okT (cfgL n k).length n (z.1 : Int) z.2.1 ∧ z.1 + negs z.2.1 ≤ 5000 + (if z.2.2 = true then 0 else 1) ∧ (z.2.2 = true → TF (cnI n k es) (cfgL n k).length n (negs z.2.1 + 1) z.2.1 ((z.1 : Int) + 1) = ttI n k es) ∧ (z.2.2 = false → z.2.1 = ttI n k es)) (fun z => negs z.2.1 + (if z.2.2 = true then 1 else 0)) (0, tbl0 n k, true) ?_ ?_ ?_
      · exact ⟨tbl0_ok n k, by have := negs_le (M := 0) (tbl0 n k) (tbl0_ok n k).row; rw [(tbl0_ok n k).len] at this; have h2 : (cfgL n k).length * n ≤ 512 * 8 := Nat.mul_le_mul hcl hn8; simp only []; omega, fun _ => rfl, fun h => by cases h⟩
      ·
        refine Le_sub C _ _ ⟨rfl, ⟨rfl, ⟨rfl, ⟨rfl, trivial⟩⟩⟩⟩ ⟨rfl, ⟨rfl, ⟨(eqv rfl (by rw [htb]; rfl)), trivial⟩⟩⟩ rfl rfl
      ·
        intro z hR
        obtain ⟨hz1, hz2, hz3, hz4⟩ := hR
        refine J_seq ?_
        refine J_seq ?_
        refine J_region ?_
        refine jl rfl rfl (ltn hn rfl) (pure_move rfl rfl) ?_
        refine JL_nil ?_
        refine J_cond rfl (fun h3 => ?_) (fun h3 => ?_)
        ·
          rw [if_pos h3] at hz2
          refine J_skip ?_
          refine J_seq ?_
          refine J_block ?_
          refine J_seq ?_
          refine J_region ?_
          refine jl rfl rfl (ltn hn rfl) (pure_assign rfl rfl) ?_
          refine JL_nil ?_
          refine J_seq ?_
          refine J_region ?_
          refine jl rfl rfl (ltn hn rfl) (pure_assign rfl rfl) ?_
          refine JL_nil ?_
          refine J_seq ?_
          refine J_seq ?_
          refine J_le (Le_adopt C _ 13 900 (.leaf 89 2 []) rfl rfl (.inl ⟨_, _, rfl⟩)) ?_
          refine J_region ?_
          refine jl rfl rfl (ltn hn rfl) (pure_move rfl rfl) ?_
          refine jl rfl rfl (ltn hn rfl) (pure_nilCheck_box rfl rfl) ?_
          refine jl rfl rfl (ltn hn rfl) (p_fld_b rfl rfl rfl) ?_
          refine jl rfl rfl (ltn hn rfl) (p_ld_b rfl rfl rfl rfl) ?_
          refine jl rfl rfl (ltn hn rfl) (p_len_nm rfl rfl rfl) ?_
          refine jl rfl rfl (ltn hn rfl) (pure_move rfl rfl) ?_
          refine JL_nil ?_
          refine J_block ?_
          refine J_loop (X := Nat) (fun c => ⟨[(2, .box 2 0), (5, .box 17022 0), (11, I ((z.1 : Int) + 1)), (12, B false), (13, .own 900 []), (63, .own 8 []), (64, I (z.2.1.length : Int)), (65, I (c : Nat))], [(2, .box 62 [L (netW n es)]), (17022, .box 77 [L (netW n es), LL (cfgL n k), LL ((cfgL n k).map (mvL n es (cfgL n k))), .own 8 []]), (8, Nd 37 (lf 3 1 cI) z.2.1), (900, Ow 89 2 cP ((List.range c).flatMap (frC (cnI n k es) n z.2.1)))]⟩) (fun c => c ≤ z.2.1.length) (fun c => z.2.1.length - c) 0 ?_ ?_ ?_
          · omega
          ·
            refine Le_sub C _ _ ⟨rfl, ⟨rfl, ⟨rfl, ⟨rfl, ⟨rfl, ⟨rfl, ⟨rfl, ⟨rfl, trivial⟩⟩⟩⟩⟩⟩⟩⟩ ⟨rfl, ⟨rfl, ⟨rfl, ⟨rfl, trivial⟩⟩⟩⟩ rfl rfl
          ·
            intro c hc
            refine J_seq ?_
            refine J_region ?_
            refine jl rfl rfl (ltn hn rfl) (pure_lss rfl rfl rfl) ?_
            refine JL_nil ?_
            refine J_seq ?_
            refine J_cond_p rfl (fun h4 => ?_) (fun h4 => ?_)
            ·
              have hML := hz1.len
              have hrw : (gi z.2.1 (c : Nat)).length = n := hz1.row _ (gi_mem (by omega))
              have hmlL : (gi ((cfgL n k).map (mvL n es (cfgL n k))) (c : Nat)).length < 2 ^ 40 := by rw [gi_map (by omega)]; unfold mvL; rw [List.length_map]; have := (movesL_facts hn8 es (cs := gi (cfgL n k) (c : Nat)) (by rw [(hcm _ (gi_mem (by omega))).1]; exact hk)).1; omega
              have hmy : ∀ y ∈ gi ((cfgL n k).map (mvL n es (cfgL n k))) (c : Nat), 0 ≤ y ∧ y.toNat < (cfgL n k).length ∧ y.toNat < z.2.1.length := fun y hy => by rw [gi_map (by omega)] at hy; have := mv_bd hn8 hk (gi_mem (by omega)) y hy; omega
              have hcl40 : ∀ l ∈ (cfgL n k), l.length < 2 ^ 40 := fun l hl => by have := (hcm l hl).1; omega
              have hfb := fr_bd (cn := (cnI n k es)) (n := n) (tbl := z.2.1) c
              have hcn : c * n ≤ 512 * 8 := Nat.mul_le_mul (by omega) hn8
              refine J_skip ?_
              refine J_seq ?_
              refine J_block ?_
              refine J_seq ?_
              refine J_region ?_
              refine jl rfl rfl (ltn hn rfl) (pure_move rfl rfl) ?_
              refine jl rfl rfl (ltn hn rfl) (p_idx_nm rfl rfl rfl rfl (by omega) (by omega)) ?_
              refine jl rfl rfl (ltn hn rfl) (p_ld_nm rfl LdT.out rfl rfl (by omega)) ?_
              refine jl rfl rfl (ltn hn rfl) (pure_assign rfl rfl) ?_
              refine jl rfl rfl (ltn hn rfl) (pure_assign rfl rfl) ?_
              refine JL_nil ?_
              refine J_seq ?_
              refine J_region ?_
              refine jl rfl rfl (ltn hn rfl) (pure_move rfl rfl) ?_
              refine jl rfl rfl (ltn hn rfl) (p_len_np (lst := id) (fun _ => rfl) rfl rfl rfl (by omega)) ?_
              refine jl rfl rfl (ltn hn rfl) (pure_move rfl rfl) ?_
              refine JL_nil ?_
              refine J_block ?_
              refine J_loop (X := Nat) (fun y => ⟨[(2, .box 2 0), (5, .box 17022 0), (11, I ((z.1 : Int) + 1)), (12, B false), (13, .own 900 []), (14, I (c : Nat)), (63, .own 8 []), (64, I (z.2.1.length : Int)), (65, I (c : Nat)), (70, .own 8 [c]), (71, I ((gi z.2.1 (c : Nat)).length : Int)), (72, I (y : Nat))], [(2, .box 62 [L (netW n es)]), (17022, .box 77 [L (netW n es), LL (cfgL n k), LL ((cfgL n k).map (mvL n es (cfgL n k))), .own 8 []]), (8, Nd 37 (lf 3 1 cI) z.2.1), (900, Ow 89 2 cP (((List.range c).flatMap (frC (cnI n k es) n z.2.1)) ++ ((ints y).filter (fun x => vB (cnI n k es) z.2.1 (c : Nat) x)).map (fun x => (((c : Nat) : Int), x))))]⟩) (fun y => y ≤ n) (fun y => n - y) 0 ?_ ?_ ?_
              · omega
              ·
                refine Le_sub C _ _ ⟨rfl, ⟨rfl, ⟨rfl, ⟨rfl, ⟨rfl, ⟨rfl, ⟨rfl, ⟨rfl, ⟨rfl, ⟨rfl, ⟨rfl, ⟨rfl, trivial⟩⟩⟩⟩⟩⟩⟩⟩⟩⟩⟩⟩ ⟨rfl, ⟨rfl, ⟨rfl, ⟨(eqv rfl (by simp [ints])), trivial⟩⟩⟩⟩ rfl rfl
              ·
                intro y hy
                refine J_seq ?_
                refine J_region ?_
                refine jl rfl rfl (ltn hn rfl) (pure_lss rfl rfl rfl) ?_
                refine JL_nil ?_
                refine J_seq ?_
                refine J_cond_p rfl (fun h5 => ?_) (fun h5 => ?_)
                ·
                  have hrb : ∀ r ∈ z.2.1, ∀ b ∈ setW (closedW (netW n es) (y : Nat)), 0 ≤ b ∧ b.toNat < r.length := fun r hr b hb => by rw [set_ball hG (by omega)] at hb; have h1 := ((mem_ball (by omega)).1 hb).1; have h2 := hz1.row r hr; omega
                  refine J_skip ?_
                  refine J_seq ?_
                  refine J_block ?_
                  refine J_seq ?_
                  refine J_region ?_
                  refine jl rfl rfl (ltn hn rfl) (pure_move rfl rfl) ?_
                  refine jl rfl rfl (ltn hn rfl) (p_idx_np (lst := id) (fun _ => rfl) rfl rfl rfl (by omega) rfl (by first | omega | (simp only [id_eq]; omega)) (by first | omega | (simp only [id_eq]; omega))) ?_
                  refine jl rfl rfl (ltn hn rfl) (p_ld_np (lst := id) (fun _ => rfl) rfl LdT.out rfl rfl (by omega) (by first | omega | (simp only [id_eq]; omega)) rfl) ?_
                  refine jl rfl rfl (ltn hn rfl) (pure_assign rfl rfl) ?_
                  refine jl rfl rfl (ltn hn rfl) (pure_assign rfl rfl) ?_
                  refine JL_nil ?_
                  refine J_seq ?_
                  refine J_region ?_
                  refine jl rfl rfl (ltn hn rfl) (pure_move rfl rfl) ?_
                  refine jl rfl rfl (ltn hn rfl) (pure_lss rfl rfl rfl) ?_
                  refine jl rfl rfl (ltn hn rfl) (pure_move rfl rfl) ?_
                  refine jl_split rfl rfl rfl (fun h6 => ?_) (fun h6 => ?_)
                  ·
                    refine jl rfl rfl (ltn hn rfl) (pure_move rfl rfl) ?_
                    refine jl rfl rfl (ltn hn rfl) (pure_move rfl rfl) ?_
                    refine jl rfl rfl (ltn hn rfl) (pure_move rfl rfl) ?_
                    refine jl_o rfl (op_callE (callsB (Can_spec (netW n es) (cfgL n k) ((cfgL n k).map (mvL n es (cfgL n k))) z.2.1 (c : Nat) (y : Nat) (by omega) (netW_bd hG) (by omega) (by omega) (by rw [List.length_map]; omega) hmlL hmy hcl40 hrb) (enters_fn (args := [.tmp 80, .tmp 81, .tmp 82]) rfl Tryz.func115 rfl rfl (evA_c rfl (evA_c rfl (evA_c rfl evA_n)))) (.cons (view_box rfl (.cons (.ro _ rfl) (.cons (.ro _ rfl) (.cons (.ro _ rfl) (.cons (.own _ _ _ _ _ rfl rfl (ro_nd _)) .nil)))) rfl) (.cons (.ro _ rfl) (.cons (.ro _ rfl) .nil))) rfl trivial) rfl (ltn hn rfl) rfl rfl) ?_
                    refine jl rfl rfl (ltn hn rfl) (pure_pick_t rfl rfl rfl) ?_
                    refine JL_nil ?_
                    refine J_cond rfl (fun h7 => ?_) (fun h7 => ?_)
                    ·
                      refine J_region ?_
                      refine jl rfl rfl (ltn hn rfl) (pure_move rfl rfl) ?_
                      refine jl rfl rfl (ltn hn rfl) (pure_move rfl rfl) ?_
                      refine jl rfl rfl (ltn hn rfl) (pure_move rfl rfl) ?_
                      refine jl rfl rfl (ltn hn rfl) (pure_buildA (l := [(0, .tmp 86), (1, .tmp 87)]) rfl ArT.und (ArT.siz 89) ZrT.out (.one rfl rfl (.one rfl rfl .nil)) rfl) ?_
                      refine jl_o rfl (@op_lit1_agg _ _ _ _ _ cP ((((c : Nat) : Int), ((y : Nat) : Int)) : Int × Int) _ _ _ _ _ _ _ SlT.slk rfl rfl (ltn hn rfl) rfl rfl rfl rfl (Nat.le_of_ble_eq_true rfl) rfl rfl) ?_
                      refine jl_o rfl (op_append_m SlT.slk rfl rfl (ltn hn rfl) rfl rfl (src_own_m rfl rfl) (by have hfl2 := List.length_filter_le (fun x => vB (cnI n k es) z.2.1 (c : Nat) x) (ints y); rw [ints_length] at hfl2; simp only [List.length_append, List.length_cons, List.length_nil, List.length_map]; omega) (by have hfl2 := List.length_filter_le (fun x => vB (cnI n k es) z.2.1 (c : Nat) x) (ints y); rw [ints_length] at hfl2; simp only [List.length_append, List.length_cons, List.length_nil, List.length_map]; omega)) ?_
                      refine jl rfl rfl (ltn hn rfl) (pure_assign rfl rfl) ?_
                      refine JL_nil ?_
                      refine J_region ?_
                      refine jl rfl rfl (ltn hn rfl) (pure_add rfl rfl rfl (by omega)) ?_
                      refine jl rfl rfl (ltn hn rfl) (pure_move rfl rfl) ?_
                      refine JL_nil ?_
                      refine ⟨y + 1, ?_, ?_, ?_⟩
                      · omega
                      · omega
                      ·
                        refine Le_sub C _ _ ⟨rfl, ⟨rfl, ⟨rfl, ⟨rfl, ⟨rfl, ⟨rfl, ⟨rfl, ⟨rfl, ⟨rfl, ⟨rfl, ⟨rfl, ⟨(eqv rfl (vi (by omega))), trivial⟩⟩⟩⟩⟩⟩⟩⟩⟩⟩⟩⟩ ⟨rfl, ⟨rfl, ⟨rfl, ⟨(eqv rfl (by rw [filt_snoc, if_pos (vB_t (x := ((y : Nat) : Int)) h6 h7), List.map_append, List.append_assoc]; rfl)), trivial⟩⟩⟩⟩ rfl rfl
                    ·
                      refine J_skip ?_
                      refine J_region ?_
                      refine jl rfl rfl (ltn hn rfl) (pure_add rfl rfl rfl (by omega)) ?_
                      refine jl rfl rfl (ltn hn rfl) (pure_move rfl rfl) ?_
                      refine JL_nil ?_
                      refine ⟨y + 1, ?_, ?_, ?_⟩
                      · omega
                      · omega
                      ·
                        refine Le_sub C _ _ ⟨rfl, ⟨rfl, ⟨rfl, ⟨rfl, ⟨rfl, ⟨rfl, ⟨rfl, ⟨rfl, ⟨rfl, ⟨rfl, ⟨rfl, ⟨(eqv rfl (vi (by omega))), trivial⟩⟩⟩⟩⟩⟩⟩⟩⟩⟩⟩⟩ ⟨rfl, ⟨rfl, ⟨rfl, ⟨(eqv rfl (by rw [filt_snoc, if_neg (vB_f (x := ((y : Nat) : Int)) h7), List.append_nil])), trivial⟩⟩⟩⟩ rfl rfl
                  ·
                    refine jl_s rfl rfl (ltn hn rfl) ?_
                    refine jl_s rfl rfl (ltn hn rfl) ?_
                    refine jl_s rfl rfl (ltn hn rfl) ?_
                    refine jl_s rfl rfl (ltn hn rfl) ?_
                    refine jl rfl rfl (ltn hn rfl) (pure_pick_f rfl rfl rfl) ?_
                    refine JL_nil ?_
                    refine J_cond_f rfl ?_
                    refine J_skip ?_
                    refine J_region ?_
                    refine jl rfl rfl (ltn hn rfl) (pure_add rfl rfl rfl (by omega)) ?_
                    refine jl rfl rfl (ltn hn rfl) (pure_move rfl rfl) ?_
                    refine JL_nil ?_
                    refine ⟨y + 1, ?_, ?_, ?_⟩
                    · omega
                    · omega
                    ·
                      refine Le_sub C _ _ ⟨rfl, ⟨rfl, ⟨rfl, ⟨rfl, ⟨rfl, ⟨rfl, ⟨rfl, ⟨rfl, ⟨rfl, ⟨rfl, ⟨rfl, ⟨(eqv rfl (vi (by omega))), trivial⟩⟩⟩⟩⟩⟩⟩⟩⟩⟩⟩⟩ ⟨rfl, ⟨rfl, ⟨rfl, ⟨(eqv rfl (by rw [filt_snoc, if_neg (vB_n (x := ((y : Nat) : Int)) h6), List.append_nil])), trivial⟩⟩⟩⟩ rfl rfl
                ·
                  refine J_exit ?_
                  refine J_region ?_
                  refine jl rfl rfl (ltn hn rfl) (pure_add rfl rfl rfl (by omega)) ?_
                  refine jl rfl rfl (ltn hn rfl) (pure_move rfl rfl) ?_
                  refine JL_nil ?_
                  refine ⟨c + 1, ?_, ?_, ?_⟩
                  · omega
                  · omega
                  ·
                    refine Le_sub C _ _ ⟨rfl, ⟨rfl, ⟨rfl, ⟨rfl, ⟨rfl, ⟨rfl, ⟨rfl, ⟨(eqv rfl (vi (by omega))), trivial⟩⟩⟩⟩⟩⟩⟩⟩ ⟨rfl, ⟨rfl, ⟨rfl, ⟨(eqv rfl (by rw [fr_next]; unfold frC; rw [show y = n by omega])), trivial⟩⟩⟩⟩ rfl rfl
            ·
              refine J_exit ?_
              refine J_seq ?_
              refine J_region ?_
              refine jl rfl rfl (ltn hn rfl) (pure_move rfl rfl) ?_
              refine jl rfl rfl (ltn hn rfl) (p_len_om rfl rfl rfl) ?_
              refine jl rfl rfl (ltn hn rfl) (pure_move rfl rfl) ?_
              refine JL_nil ?_
              refine J_block ?_
              have hce : c = (cfgL n k).length := by have := hz1.len; omega
              have hfA : (frA (cnI n k es) (cfgL n k).length n z.2.1).length ≤ 4096 := by have h := fr_bd (cn := (cnI n k es)) (n := n) (tbl := z.2.1) (cfgL n k).length; have h2 : (cfgL n k).length * n ≤ 512 * 8 := Nat.mul_le_mul hcl hn8; unfold frA; omega
              refine J_loop (X := Nat) (fun q => ⟨[(2, .box 2 0), (5, .box 17022 0), (11, I ((z.1 : Int) + 1)), (12, B (decide (0 < q))), (93, .own 900 []), (94, I ((frA (cnI n k es) (cfgL n k).length n z.2.1).length : Int)), (95, I (q : Nat))], [(2, .box 62 [L (netW n es)]), (17022, .box 77 [L (netW n es), LL (cfgL n k), LL ((cfgL n k).map (mvL n es (cfgL n k))), .own 8 []]), (8, Nd 37 (lf 3 1 cI) (((frA (cnI n k es) (cfgL n k).length n z.2.1).take q).foldl (tset ((z.1 : Int) + 1)) z.2.1)), (900, Ow 89 2 cP (frA (cnI n k es) (cfgL n k).length n z.2.1))]⟩) (fun q => q ≤ (frA (cnI n k es) (cfgL n k).length n z.2.1).length) (fun q => (frA (cnI n k es) (cfgL n k).length n z.2.1).length - q) 0 ?_ ?_ ?_
              · omega
              ·
                refine Le_sub C _ _ ⟨rfl, ⟨rfl, ⟨rfl, ⟨(eqv rfl (vb (by simp))), ⟨rfl, ⟨(eqv rfl (vi (by unfold frA; rw [hce]))), ⟨rfl, trivial⟩⟩⟩⟩⟩⟩⟩ ⟨rfl, ⟨rfl, ⟨rfl, ⟨(eqv rfl (by unfold frA; rw [hce])), trivial⟩⟩⟩⟩ rfl rfl
              ·
                intro q hq
                refine J_seq ?_
                refine J_region ?_
                refine jl rfl rfl (ltn hn rfl) (pure_lss rfl rfl rfl) ?_
                refine JL_nil ?_
                refine J_seq ?_
                refine J_cond_p rfl (fun h8 => ?_) (fun h8 => ?_)
                ·
                  have hpm := frA_mem.1 (gi_mem (l := (frA (cnI n k es) (cfgL n k).length n z.2.1)) (i := q) (by omega))
                  have hp1 : ((((gi (frA (cnI n k es) (cfgL n k).length n z.2.1) (q : Nat)).1.toNat : Nat)) : Int) = (gi (frA (cnI n k es) (cfgL n k).length n z.2.1) (q : Nat)).1 := by omega
                  have hfo := tset_fold (M := (cfgL n k).length) (n := n) (t := ((z.1 : Int) + 1)) ((frA (cnI n k es) (cfgL n k).length n z.2.1).take q) z.2.1 hz1.len hz1.row (fun p hp => by have := frA_mem.1 (List.mem_of_mem_take hp); exact ⟨this.1, this.2.1⟩)
                  have hfl := hfo.1
                  have hfr : (gi (((frA (cnI n k es) (cfgL n k).length n z.2.1).take q).foldl (tset ((z.1 : Int) + 1)) z.2.1) (((gi (frA (cnI n k es) (cfgL n k).length n z.2.1) (q : Nat)).1.toNat : Nat) : Int)).length = n := hfo.2.1 _ (gi_mem (by omega))
                  refine J_skip ?_
                  refine J_seq ?_
                  refine J_block ?_
                  refine J_seq ?_
                  refine J_region ?_
                  refine jl rfl rfl (ltn hn rfl) (p_idx_own_m rfl rfl rfl rfl (by omega) (by omega)) ?_
                  refine jl rfl rfl (ltn hn rfl) (p_ld_oa rfl rfl rfl rfl (mget (by omega)) (Nat.le_of_ble_eq_true rfl) rfl) ?_
                  refine jl_o rfl (@op_alloc _ _ _ _ _ _ _ rfl ZrT.out rfl rfl (ltn hn rfl) rfl) ?_
                  refine jl_o rfl (op_store_box_agg rfl rfl (by exact SzT.out) rfl rfl (by exact Nat.le_of_ble_eq_true rfl) rfl rfl) ?_
                  refine JL_nil ?_
                  refine J_seq ?_
                  refine J_mixed [8] follows_mixed (by kernel_rfl) ?_
                  refine JD1_read 0 rfl (by kernel_rfl) (by kernel_rfl) (by kernel_rfl) rfl rfl (ltn hn rfl) (pure_move rfl rfl) rfl ?_
                  refine JD1_read 1 rfl (by kernel_rfl) (by kernel_rfl) (by kernel_rfl) rfl rfl (ltn hn rfl) (pure_nilCheck_box rfl rfl) rfl ?_
                  refine JD1_read 2 rfl (by kernel_rfl) (by kernel_rfl) (by kernel_rfl) rfl rfl (ltn hn rfl) (p_fld_b rfl rfl rfl) rfl ?_
                  refine JD1_read 3 rfl (by kernel_rfl) (by kernel_rfl) (by kernel_rfl) rfl rfl (ltn hn rfl) (p_ld_b rfl rfl rfl rfl) rfl ?_
                  refine JD1_read 4 rfl (by kernel_rfl) (by kernel_rfl) (by kernel_rfl) rfl rfl (ltn hn rfl) (p_idx_ab rfl rfl rfl (by omega) (by omega) rfl) rfl ?_
                  refine JD1_read 5 rfl (by kernel_rfl) (by kernel_rfl) (by kernel_rfl) rfl rfl (ltn hn rfl) (p_ld_b rfl rfl rfl rfl) rfl ?_
                  refine JD1_read 6 rfl (by kernel_rfl) (by kernel_rfl) (by kernel_rfl) rfl rfl (ltn hn rfl) (p_idx_nm rfl rfl rfl rfl (by omega) (by omega)) rfl ?_
                  refine JD1_read 8 rfl (by kernel_rfl) (by kernel_rfl) (by kernel_rfl) rfl rfl (ltn hn rfl) (p_idx_ab rfl rfl rfl (by omega) (by omega) rfl) rfl ?_
                  refine JD1_read 9 rfl (by kernel_rfl) (by kernel_rfl) (by kernel_rfl) rfl rfl (ltn hn rfl) (p_ld_b rfl rfl rfl rfl) rfl ?_
                  refine JD1_read 10 rfl (by kernel_rfl) (by kernel_rfl) (by kernel_rfl) rfl rfl (ltn hn rfl) (pure_move rfl rfl) rfl ?_
                  refine JD1_go ?_
                  refine JD_only 7 rfl (by kernel_rfl) rfl (OpD.of_pure rfl (ltn hn rfl) (p_ld_nm rfl LdT.out rfl rfl (by omega))) rfl ?_
                  refine JD_still 11 rfl (by kernel_rfl) (by kernel_rfl) (by kernel_rfl) rfl rfl (ltn hn rfl) (p_idx_np (lst := id) (fun _ => rfl) rfl rfl rfl (by omega) rfl (by first | omega | (simp only [id_eq]; omega)) (by first | omega | (simp only [id_eq]; omega))) ?_
                  refine JD_only 12 rfl (by kernel_rfl) rfl (op_store_np (g := cI) (lst := id) (u := ((gi (((frA (cnI n k es) (cfgL n k).length n z.2.1).take q).foldl (tset ((z.1 : Int) + 1)) z.2.1) (((gi (frA (cnI n k es) (cfgL n k).length n z.2.1) (q : Nat)).1.toNat : Nat) : Int)).set (gi (frA (cnI n k es) (cfgL n k).length n z.2.1) (q : Nat)).2.toNat ((z.1 : Int) + 1))) (fun _ => rfl) SzT.out rfl rfl rfl rfl rfl rfl rfl rfl (fun _ => rfl) (by omega) (by first | omega | (simp only [id_eq]; omega)) rfl) rfl ?_
                  refine JD_done (by kernel_rfl) ?_
                  refine J_region ?_
                  refine jl rfl rfl (ltn hn rfl) (pure_assign rfl rfl) ?_
                  refine JL_nil ?_
                  refine J_region ?_
                  refine jl rfl rfl (ltn hn rfl) (pure_add rfl rfl rfl (by omega)) ?_
                  refine jl rfl rfl (ltn hn rfl) (pure_move rfl rfl) ?_
                  refine JL_nil ?_
                  refine ⟨q + 1, ?_, ?_, ?_⟩
                  · omega
                  · omega
                  ·
                    refine Le_sub C _ _ ⟨rfl, ⟨rfl, ⟨rfl, ⟨(eqv rfl (vb (by simp))), ⟨rfl, ⟨rfl, ⟨(eqv rfl (vi (by omega))), trivial⟩⟩⟩⟩⟩⟩⟩ ⟨rfl, ⟨rfl, ⟨(eqv rfl (by rw [take_gi (l := (frA (cnI n k es) (cfgL n k).length n z.2.1)) (i := q) (by omega), List.foldl_append, hp1]; rfl)), ⟨rfl, trivial⟩⟩⟩⟩ rfl rfl
                ·
                  refine J_exit ?_
                  refine J_region ?_
                  refine jl rfl rfl (ltn hn rfl) (pure_move rfl rfl) ?_
                  refine jl rfl rfl (ltn hn rfl) (pure_add rfl rfl rfl (by omega)) ?_
                  refine jl rfl rfl (ltn hn rfl) (pure_assign rfl rfl) ?_
                  refine JL_nil ?_
                  have hst := step_TT hz1 (hz3 h3)
                  have hqa : (frA (cnI n k es) (cfgL n k).length n z.2.1).take q = (frA (cnI n k es) (cfgL n k).length n z.2.1) := take_all (l := (frA (cnI n k es) (cfgL n k).length n z.2.1)) (i := q) (by omega)
                  refine ⟨(z.1 + 1, stepT (cnI n k es) (cfgL n k).length n z.2.1 ((z.1 : Int) + 1), decide (0 < (frA (cnI n k es) (cfgL n k).length n z.2.1).length)), ?_, ?_, ?_⟩
                  · exact ⟨stepT_ok hz1 (by omega) (by simp only []; omega) (by simp only []; omega), by simp only [decide_eq_true_eq]; by_cases he : ((frA (cnI n k es) (cfgL n k).length n z.2.1)).length = 0; (rw [stepT_id hz1 he, if_neg (by omega)]; omega); (have := negs_step (cn := (cnI n k es)) hz1 (show (0 : Int) < (z.1 : Int) + 1 by omega) he; rw [if_pos (by omega)]; omega), hst.1, hst.2⟩
                  · simp only [decide_eq_true_eq]; rw [if_pos h3]; by_cases he : ((frA (cnI n k es) (cfgL n k).length n z.2.1)).length = 0; (rw [stepT_id hz1 he, if_neg (by omega)]; omega); (have := negs_step (cn := (cnI n k es)) hz1 (show (0 : Int) < (z.1 : Int) + 1 by omega) he; rw [if_pos (by omega)]; omega)
                  ·
                    refine Le_sub C _ _ ⟨rfl, ⟨rfl, ⟨(eqv rfl (vi (by simp only []; omega))), ⟨(eqv rfl (vb (by simp only []; congr 1; exact propext (by omega)))), trivial⟩⟩⟩⟩ ⟨rfl, ⟨rfl, ⟨(eqv rfl (by rw [hqa, tset_all hz1])), trivial⟩⟩⟩ rfl rfl
        ·
          refine J_exit ?_
          refine J_seq ?_
          refine J_region ?_
          refine jl rfl rfl (ltn hn rfl) (pure_move rfl rfl) ?_
          refine jl rfl rfl (ltn hn rfl) (pure_assign rfl rfl) ?_
          refine JL_nil ?_
          refine J_ret ?_
          exact Fin_one rfl (Le.trans (Le_frzN C _ 8 rfl) (Le.trans (Le_freezeB C _ 17022 rfl rfl) (Le_one rfl (by rw [hz4 (by simpa using h3)]; rfl) rfl)))
end Go.Proofs.YtmiijpobhajfmaaGreat.J
namespace Go.Proofs.YtmiijpobhajfmaaGreat.J
open Go Go.RowKit
set_option maxRecDepth 20000
set_option linter.unusedVariables false
set_option linter.unusedSimpArgs false

theorem mid_len (A D : List Int) (v : Int) : (A ++ [v] ++ D).length = A.length + 1 + D.length := by simp; omega
theorem mid_gi {A D : List Int} {v : Int} {x : Nat} (h : A.length = x) : gi (A ++ [v] ++ D) (x : Int) = v := by
  rw [gi_natG (by simp; omega)]
  subst h; simp
theorem mid_set {A D : List Int} {v t : Int} {x : Nat} (h : A.length = x) : (A ++ [v] ++ D).set (x : Int).toNat t = A ++ [t] ++ D := by
  rw [Int.toNat_natCast]
  subst h; simp
theorem any_take {l : List Int} {p : Int → Bool} {i : Nat} (h : (l.take i).all (fun y => !p y) = true) (hi : ¬ (i : Int) < l.length) : l.any p = false := by
  rw [take_all hi] at h
  rw [List.any_eq_false]
  intro y hy
  have := (List.all_eq_true.1 h) y hy
  simpa using this
theorem canB_after {n k : Nat} {es : List (Int × Int)} (hG : goodG (n : Int) es = true) {tbl : List (List Int)} {x y : Int} (hx : 0 ≤ x ∧ x < n) : canB (netW n es) (cfgL n k) tbl x y = decide (0 ≤ (if (gi (cfgL n k) y).contains x = true then 0 else afterR (gi tbl y) (gi ((ints n).map (ballG n es)) x))) := by
  unfold canB
  rw [set_ball hG hx, gi_ints hx]
  by_cases h : (gi (cfgL n k) y).contains x = true
  · rw [if_pos h, h]; rfl
  · rw [if_neg h]
    simp only [Bool.not_eq_true] at h
    rw [h]; rfl
theorem gr_or {a b c : Bool} (h : c = (a || b)) : (a || b) = c := h.symm
theorem stepV_t {cn : List (List Int) → Int → Int → Bool} {tbl : List (List Int)} {t c x : Int} (h : vB cn tbl c x = true) : stepV cn tbl t c x = t := by unfold stepV; rw [if_pos h]
theorem stepV_n {cn : List (List Int) → Int → Int → Bool} {tbl : List (List Int)} {t c x : Int} (h : ¬ vB cn tbl c x = true) : stepV cn tbl t c x = gi (gi tbl c) x := by unfold stepV; rw [if_neg h]
theorem row_next {f : Int → Int} {x : Nat} {D : List Int} {v : Int} (h : f (x : Int) = v) : (ints (x + 1)).map f ++ D = (ints x).map f ++ [v] ++ D := by
  rw [ints_succ, List.map_append, ← h]; rfl
theorem drop_cons {l : List Int} {x : Nat} (h : x < l.length) : l.drop x = gi l (x : Int) :: l.drop (x + 1) := by
  rw [gi_natG h, List.drop_eq_getElem_cons h]

theorem Times_spec (n k : Nat) (es : List (Int × Int)) (hG : goodG (n : Int) es = true) (hk : k ≤ 3) : Spec Tryz.prog 66 [.agg [LL (cfgL n k), LL ((cfgL n k).map (mvL n es (cfgL n k))), LL ((ints n).map (ballG n es))]] (LL (ttI n k es)) [] := by
  refine Spec.intro (c := _) Tryz.func66 rfl (Nat.le_of_ble_eq_true rfl) (fun C hC hfx => ?_)
  have hn : C.n = 109 := hC
  refine (show J _ _ _ _ (⟨[(0, .agg [LL (cfgL n k), LL ((cfgL n k).map (mvL n es (cfgL n k))), LL ((ints n).map (ballG n es))])], []⟩ : AS) from ?_)
  have hn8 := good_n hG
  have hcl := cfg_len3 hn8 hk
  have hcm := cfg_mem n k
  have hbl : ((ints n).map (ballG n es)).length = n := by rw [List.length_map, ints_length]
  refine J_seq ?_
  refine J_region ?_
  refine jl_o rfl (op_box_agg rfl rfl (ltn hn rfl) rfl rfl rfl) ?_
  refine jl rfl rfl (ltn hn rfl) (pure_assign rfl rfl) ?_
  refine JL_nil ?_
  refine J_seq ?_
  refine J_region ?_
  refine jl_o rfl (@op_lit0 _ _ _ _ _ cL _ _ _ _ _ SlT.slk rfl rfl (ltn hn rfl) rfl) ?_
  refine jl rfl rfl (ltn hn rfl) (pure_assign rfl rfl) ?_
  refine JL_nil ?_
  refine J_seq ?_
  refine J_seq ?_
  refine J_region ?_
  refine jl rfl rfl (ltn hn rfl) (pure_assign rfl rfl) ?_
  refine JL_nil ?_
  refine J_block ?_
  refine J_loop (X := Nat) (fun c => ⟨[(1, .box 1 0), (3, .own 14 []), (4, I (c : Nat))], [(1, .box 74 [LL (cfgL n k), LL ((cfgL n k).map (mvL n es (cfgL n k))), LL ((ints n).map (ballG n es))]), (14, Ow 37 1 cL (((cfgL n k).take c).map (row0 n)))]⟩) (fun c => c ≤ (cfgL n k).length) (fun c => (cfgL n k).length - c) 0 ?_ ?_ ?_
  · omega
  ·
    refine Le_sub C _ _ ⟨rfl, ⟨rfl, ⟨rfl, trivial⟩⟩⟩ ⟨rfl, ⟨rfl, trivial⟩⟩ rfl rfl
  ·
    intro c hc
    refine J_seq ?_
    refine J_seq ?_
    refine J_region ?_
    refine jl rfl rfl (ltn hn rfl) (pure_move rfl rfl) ?_
    refine jl rfl rfl (ltn hn rfl) (p_fld_b rfl rfl rfl) ?_
    refine jl rfl rfl (ltn hn rfl) (p_ld_b rfl rfl rfl rfl) ?_
    refine jl rfl rfl (ltn hn rfl) (p_len_m rfl rfl) ?_
    refine jl rfl rfl (ltn hn rfl) (pure_lss rfl rfl rfl) ?_
    refine JL_nil ?_
    refine J_cond_p rfl (fun h1 => ?_) (fun h1 => ?_)
    ·
      have hcc := hcm _ (gi_mem (l := (cfgL n k)) (i := c) (by omega))
      refine J_skip ?_
      refine J_seq ?_
      refine J_block ?_
      refine J_seq ?_
      refine J_region ?_
      refine jl_o rfl (@op_lit0 _ _ _ _ _ cI _ _ _ _ _ SlT.slk rfl rfl (ltn hn rfl) rfl) ?_
      refine jl rfl rfl (ltn hn rfl) (pure_assign rfl rfl) ?_
      refine JL_nil ?_
      refine J_seq ?_
      refine J_seq ?_
      refine J_region ?_
      refine jl rfl rfl (ltn hn rfl) (pure_assign rfl rfl) ?_
      refine JL_nil ?_
      refine J_block ?_
      refine J_loop (X := Nat) (fun x => ⟨[(1, .box 1 0), (3, .own 14 []), (4, I (c : Nat)), (5, .own 22 []), (6, I (x : Nat))], [(1, .box 74 [LL (cfgL n k), LL ((cfgL n k).map (mvL n es (cfgL n k))), LL ((ints n).map (ballG n es))]), (14, Ow 37 1 cL (((cfgL n k).take c).map (row0 n))), (22, Ow 3 1 cI ((ints x).map (fun x => if (gi (cfgL n k) (c : Nat)).contains x = true then (0 : Int) else -1)))]⟩) (fun x => x ≤ n) (fun x => n - x) 0 ?_ ?_ ?_
      · omega
      ·
        refine Le_sub C _ _ ⟨rfl, ⟨rfl, ⟨rfl, ⟨rfl, ⟨rfl, trivial⟩⟩⟩⟩⟩ ⟨rfl, ⟨rfl, ⟨rfl, trivial⟩⟩⟩ rfl rfl
      ·
        intro x hx
        refine J_seq ?_
        refine J_seq ?_
        refine J_region ?_
        refine jl rfl rfl (ltn hn rfl) (pure_move rfl rfl) ?_
        refine jl rfl rfl (ltn hn rfl) (p_fld_b rfl rfl rfl) ?_
        refine jl rfl rfl (ltn hn rfl) (p_ld_b rfl rfl rfl rfl) ?_
        refine jl rfl rfl (ltn hn rfl) (p_len_m rfl rfl) ?_
        refine jl rfl rfl (ltn hn rfl) (pure_lss rfl rfl rfl) ?_
        refine JL_nil ?_
        refine J_cond_p rfl (fun h2 => ?_) (fun h2 => ?_)
        ·
          have hil : (ints x).length = x := ints_length x
          refine J_skip ?_
          refine J_seq ?_
          refine J_block ?_
          refine J_seq ?_
          refine J_region ?_
          refine jl rfl rfl (ltn hn rfl) (p_fld_b rfl rfl rfl) ?_
          refine jl rfl rfl (ltn hn rfl) (p_ld_b rfl rfl rfl rfl) ?_
          refine jl rfl rfl (ltn hn rfl) (pure_move rfl rfl) ?_
          refine jl rfl rfl (ltn hn rfl) (p_idx rfl rfl rfl (by omega) (mget (by omega))) ?_
          refine jl rfl rfl (ltn hn rfl) (p_ld rfl rfl rfl) ?_
          refine jl rfl rfl (ltn hn rfl) (pure_move rfl rfl) ?_
          refine jl_o rfl (@op_call _ _ _ _ _ _ [.tmp 34, .tmp 35] _ _ _ _ _ (Has_spec _ _ (by omega)) rfl Tryz.func60 rfl rfl rfl (ltn hn rfl) ⟨rfl, rfl, ⟨rfl, rfl, trivial⟩⟩ rfl rfl) ?_
          refine JL_nil ?_
          refine J_cond rfl (fun h3 => ?_) (fun h3 => ?_)
          ·
            refine J_region ?_
            refine jl rfl rfl (ltn hn rfl) (pure_move rfl rfl) ?_
            refine jl_o rfl (@op_lit1 _ _ _ _ _ cI _ _ _ _ _ _ _ SlT.slk rfl rfl (ltn hn rfl) rfl rfl rfl rfl rfl) ?_
            refine jl_o rfl (op_append_m SlT.slk rfl rfl (ltn hn rfl) rfl rfl (src_own_m rfl rfl) (by first | omega | (simp only [List.length_append, List.length_cons, List.length_nil, List.length_take, List.length_drop, List.length_map]; omega)) (by first | omega | (simp only [List.length_append, List.length_cons, List.length_nil, List.length_take, List.length_drop, List.length_map]; omega))) ?_
            refine jl rfl rfl (ltn hn rfl) (pure_assign rfl rfl) ?_
            refine JL_nil ?_
            refine J_region ?_
            refine jl rfl rfl (ltn hn rfl) (pure_move rfl rfl) ?_
            refine jl rfl rfl (ltn hn rfl) (pure_add rfl rfl rfl (by omega)) ?_
            refine jl rfl rfl (ltn hn rfl) (pure_assign rfl rfl) ?_
            refine JL_nil ?_
            refine ⟨x + 1, ?_, ?_, ?_⟩
            · omega
            · omega
            ·
              refine Le_sub C _ _ ⟨rfl, ⟨rfl, ⟨rfl, ⟨rfl, ⟨(eqv rfl (vi (by omega))), trivial⟩⟩⟩⟩⟩ ⟨rfl, ⟨rfl, ⟨(eqv rfl (by rw [ints_succ, List.map_append]; simp only [List.map_cons, List.map_nil]; rw [if_pos h3])), trivial⟩⟩⟩ rfl rfl
          ·
            refine J_region ?_
            refine jl rfl rfl (ltn hn rfl) (pure_move rfl rfl) ?_
            refine jl_o rfl (@op_lit1 _ _ _ _ _ cI _ _ _ _ _ _ _ SlT.slk rfl rfl (ltn hn rfl) rfl rfl rfl rfl rfl) ?_
            refine jl_o rfl (op_append_m SlT.slk rfl rfl (ltn hn rfl) rfl rfl (src_own_m rfl rfl) (by first | omega | (simp only [List.length_append, List.length_cons, List.length_nil, List.length_take, List.length_drop, List.length_map]; omega)) (by first | omega | (simp only [List.length_append, List.length_cons, List.length_nil, List.length_take, List.length_drop, List.length_map]; omega))) ?_
            refine jl rfl rfl (ltn hn rfl) (pure_assign rfl rfl) ?_
            refine JL_nil ?_
            refine J_region ?_
            refine jl rfl rfl (ltn hn rfl) (pure_move rfl rfl) ?_
            refine jl rfl rfl (ltn hn rfl) (pure_add rfl rfl rfl (by omega)) ?_
            refine jl rfl rfl (ltn hn rfl) (pure_assign rfl rfl) ?_
            refine JL_nil ?_
            refine ⟨x + 1, ?_, ?_, ?_⟩
            · omega
            · omega
            ·
              refine Le_sub C _ _ ⟨rfl, ⟨rfl, ⟨rfl, ⟨rfl, ⟨(eqv rfl (vi (by omega))), trivial⟩⟩⟩⟩⟩ ⟨rfl, ⟨rfl, ⟨(eqv rfl (by rw [ints_succ, List.map_append]; simp only [List.map_cons, List.map_nil]; rw [if_neg (by rw [h3]; decide)])), trivial⟩⟩⟩ rfl rfl
        ·
          have hil : (ints x).length = x := ints_length x
          refine J_exit ?_
          refine J_region ?_
          refine jl rfl rfl (ltn hn rfl) (pure_move rfl rfl) ?_
          refine jl rfl rfl (ltn hn rfl) (pure_move rfl rfl) ?_
          refine JL_le (Le_frz 22 rfl rfl) ?_
          refine jl_o rfl (@op_lit1 _ _ _ _ _ cL _ _ _ _ _ _ _ SlT.slk rfl rfl (ltn hn rfl) rfl rfl rfl rfl rfl) ?_
          refine jl_o rfl (op_append_m SlT.slk rfl rfl (ltn hn rfl) rfl rfl (src_own_m rfl rfl) (by first | omega | (simp only [List.length_append, List.length_cons, List.length_nil, List.length_take, List.length_drop, List.length_map]; omega)) (by first | omega | (simp only [List.length_append, List.length_cons, List.length_nil, List.length_take, List.length_drop, List.length_map]; omega))) ?_
          refine jl rfl rfl (ltn hn rfl) (pure_assign rfl rfl) ?_
          refine JL_nil ?_
          refine J_region ?_
          refine jl rfl rfl (ltn hn rfl) (pure_move rfl rfl) ?_
          refine jl rfl rfl (ltn hn rfl) (pure_add rfl rfl rfl (by omega)) ?_
          refine jl rfl rfl (ltn hn rfl) (pure_assign rfl rfl) ?_
          refine JL_nil ?_
          refine ⟨c + 1, ?_, ?_, ?_⟩
          · omega
          · omega
          ·
            refine Le_sub C _ _ ⟨rfl, ⟨rfl, ⟨(eqv rfl (vi (by omega))), trivial⟩⟩⟩ ⟨rfl, ⟨(eqv rfl (by rw [take_gi (l := (cfgL n k)) (i := c) (by omega), List.map_append, show x = n by omega]; rfl)), trivial⟩⟩ rfl rfl
    ·
      refine J_exit ?_
      refine J_seq ?_
      refine J_region ?_
      refine jl rfl rfl (ltn hn rfl) (pure_assign rfl rfl) ?_
      refine JL_nil ?_
      refine J_block ?_
      refine J_le (Le_frz 14 rfl rfl) ?_
      have htb : (cfgL n k).take c = (cfgL n k) := take_all h1
      refine J_loop (X := Nat × List (List Int)) (fun z => ⟨[(1, .box 1 0), (3, LL z.2), (7, I ((z.1 : Int) + 1))], [(1, .box 74 [LL (cfgL n k), LL ((cfgL n k).map (mvL n es (cfgL n k))), LL ((ints n).map (ballG n es))])]⟩) (fun z => okT (cfgL n k).length n (z.1 : Int) z.2 ∧ z.1 + negs z.2 ≤ 5000 ∧ TF (cnI n k es) (cfgL n k).length n (negs z.2 + 1) z.2 ((z.1 : Int) + 1) = ttI n k es) (fun z => negs z.2) (0, tbl0 n k) ?_ ?_ ?_
      · exact ⟨tbl0_ok n k, by have := negs_le (M := 0) (tbl0 n k) (tbl0_ok n k).row; rw [(tbl0_ok n k).len] at this; have h2 : (cfgL n k).length * n ≤ 512 * 8 := Nat.mul_le_mul hcl hn8; simp only []; omega, rfl⟩
      ·
        refine Le_sub C _ _ ⟨rfl, ⟨(eqv rfl (congrArg LL (by rw [htb]; rfl))), ⟨rfl, trivial⟩⟩⟩ ⟨rfl, trivial⟩ rfl rfl
      ·
        intro z hR
        obtain ⟨hz1, hz2, hz3⟩ := hR
        refine J_seq ?_
        refine J_block ?_
        refine J_seq ?_
        refine J_region ?_
        refine jl_o rfl (@op_lit0 _ _ _ _ _ cL _ _ _ _ _ SlT.slk rfl rfl (ltn hn rfl) rfl) ?_
        refine jl rfl rfl (ltn hn rfl) (pure_assign rfl rfl) ?_
        refine jl rfl rfl (ltn hn rfl) (pure_assign rfl rfl) ?_
        refine JL_nil ?_
        refine J_seq ?_
        refine J_seq ?_
        refine J_region ?_
        refine jl rfl rfl (ltn hn rfl) (pure_assign rfl rfl) ?_
        refine JL_nil ?_
        refine J_block ?_
        refine J_loop (X := Nat) (fun c => ⟨[(1, .box 1 0), (3, LL z.2), (7, I ((z.1 : Int) + 1)), (8, .own 49 []), (10, I (c : Nat)), (9, B (decide (0 < ((List.range c).flatMap (frC (cnI n k es) n z.2)).length)))], [(1, .box 74 [LL (cfgL n k), LL ((cfgL n k).map (mvL n es (cfgL n k))), LL ((ints n).map (ballG n es))]), (49, Ow 37 1 cL ((List.range c).map (fun (c : Nat) => (ints n).map (fun x => stepV (cnI n k es) z.2 ((z.1 : Int) + 1) (c : Nat) x))))]⟩) (fun c => c ≤ z.2.length) (fun c => z.2.length - c) 0 ?_ ?_ ?_
        · omega
        ·
          refine Le_sub C _ _ ⟨rfl, ⟨rfl, ⟨rfl, ⟨rfl, ⟨rfl, ⟨(eqv rfl (vb (by simp))), trivial⟩⟩⟩⟩⟩⟩ ⟨rfl, ⟨rfl, trivial⟩⟩ rfl rfl
        ·
          intro c hc
          refine J_seq ?_
          refine J_seq ?_
          refine J_region ?_
          refine jl rfl rfl (ltn hn rfl) (pure_move rfl rfl) ?_
          refine jl rfl rfl (ltn hn rfl) (pure_move rfl rfl) ?_
          refine jl rfl rfl (ltn hn rfl) (p_len_m rfl rfl) ?_
          refine jl rfl rfl (ltn hn rfl) (pure_lss rfl rfl rfl) ?_
          refine JL_nil ?_
          refine J_cond_p rfl (fun h4 => ?_) (fun h4 => ?_)
          ·
            have hML := hz1.len
            have hmlL : (gi ((cfgL n k).map (mvL n es (cfgL n k))) (c : Nat)).length ≤ 729 := by rw [gi_map (by omega)]; unfold mvL; rw [List.length_map]; exact (movesL_facts hn8 es (cs := gi (cfgL n k) (c : Nat)) (by rw [(hcm _ (gi_mem (by omega))).1]; exact hk)).1
            have hrw : (gi z.2 (c : Nat)).length = n := hz1.row _ (gi_mem (by omega))
            refine J_skip ?_
            refine J_seq ?_
            refine J_block ?_
            refine J_seq ?_
            refine J_region ?_
            refine jl rfl rfl (ltn hn rfl) (pure_move rfl rfl) ?_
            refine jl rfl rfl (ltn hn rfl) (pure_move rfl rfl) ?_
            refine jl rfl rfl (ltn hn rfl) (p_idx rfl rfl rfl (by omega) (mget (by omega))) ?_
            refine jl rfl rfl (ltn hn rfl) (p_ld rfl rfl rfl) ?_
            refine jl_o rfl (@op_call _ _ _ _ _ _ [.tmp 59] _ _ _ _ _ (Own_spec _ (by omega)) rfl Tryz.func78 rfl rfl rfl (ltn hn rfl) ⟨rfl, rfl, trivial⟩ rfl rfl) ?_
            refine jl rfl rfl (ltn hn rfl) (pure_assign rfl rfl) ?_
            refine JL_nil ?_
            refine J_seq ?_
            refine J_seq ?_
            refine J_region ?_
            refine jl rfl rfl (ltn hn rfl) (pure_assign rfl rfl) ?_
            refine JL_nil ?_
            refine J_block ?_
            refine J_loop (X := Nat) (fun x => ⟨[(1, .box 1 0), (3, LL z.2), (7, I ((z.1 : Int) + 1)), (8, .own 49 []), (10, I (c : Nat)), (9, B (decide (0 < (((List.range c).flatMap (frC (cnI n k es) n z.2)) ++ ((ints x).filter (fun x => vB (cnI n k es) z.2 (c : Nat) x)).map (fun x => (((c : Nat) : Int), x))).length))), (11, .own 60 []), (12, I (x : Nat))], [(1, .box 74 [LL (cfgL n k), LL ((cfgL n k).map (mvL n es (cfgL n k))), LL ((ints n).map (ballG n es))]), (49, Ow 37 1 cL ((List.range c).map (fun (c : Nat) => (ints n).map (fun x => stepV (cnI n k es) z.2 ((z.1 : Int) + 1) (c : Nat) x)))), (60, Ow 3 1 cI ((ints x).map (fun x => stepV (cnI n k es) z.2 ((z.1 : Int) + 1) (c : Nat) x) ++ (gi z.2 (c : Nat)).drop x))]⟩) (fun x => x ≤ n) (fun x => n - x) 0 ?_ ?_ ?_
            · omega
            ·
              refine Le_sub C _ _ ⟨rfl, ⟨rfl, ⟨rfl, ⟨rfl, ⟨rfl, ⟨(eqv rfl (vb (by simp [ints]))), ⟨rfl, ⟨rfl, trivial⟩⟩⟩⟩⟩⟩⟩⟩ ⟨rfl, ⟨rfl, ⟨(eqv rfl (by simp [ints]; rfl)), trivial⟩⟩⟩ rfl rfl
            ·
              intro x hx
              refine J_seq ?_
              refine J_seq ?_
              refine J_region ?_
              refine jl rfl rfl (ltn hn rfl) (pure_move rfl rfl) ?_
              refine jl rfl rfl (ltn hn rfl) (pure_move rfl rfl) ?_
              refine jl rfl rfl (ltn hn rfl) (p_len_om rfl rfl rfl) ?_
              refine jl rfl rfl (ltn hn rfl) (pure_lss rfl rfl rfl) ?_
              refine JL_nil ?_
              refine J_cond_p rfl (fun h5 => ?_) (fun h5 => ?_)
              ·
                have hil : (ints x).length = x := ints_length x
                have hxl : x < n := by rw [List.length_append, List.length_map, hil, List.length_drop] at h5; omega
                refine J_skip ?_
                refine J_seq ?_
                refine J_block ?_
                refine J_seq ?_
                refine J_region ?_
                refine jl rfl rfl (ltn hn rfl) (pure_assign rfl rfl) ?_
                refine JL_nil ?_
                refine J_block ?_
                refine J_loop (X := Nat × Bool) (fun s => ⟨[(1, .box 1 0), (3, LL z.2), (7, I ((z.1 : Int) + 1)), (8, .own 49 []), (10, I (c : Nat)), (9, B (decide (0 < (((List.range c).flatMap (frC (cnI n k es) n z.2)) ++ ((ints x).filter (fun x => vB (cnI n k es) z.2 (c : Nat) x)).map (fun x => (((c : Nat) : Int), x))).length) || s.2)), (11, .own 60 []), (12, I (x : Nat)), (13, I (s.1 : Nat))], [(1, .box 74 [LL (cfgL n k), LL ((cfgL n k).map (mvL n es (cfgL n k))), LL ((ints n).map (ballG n es))]), (49, Ow 37 1 cL ((List.range c).map (fun (c : Nat) => (ints n).map (fun x => stepV (cnI n k es) z.2 ((z.1 : Int) + 1) (c : Nat) x)))), (60, Ow 3 1 cI ((ints x).map (fun x => stepV (cnI n k es) z.2 ((z.1 : Int) + 1) (c : Nat) x) ++ [if s.2 = true then ((z.1 : Int) + 1) else (gi (gi z.2 (c : Nat)) (x : Nat))] ++ (gi z.2 (c : Nat)).drop (x + 1)))]⟩) (fun s => s.1 ≤ (gi ((cfgL n k).map (mvL n es (cfgL n k))) (c : Nat)).length ∧ (s.2 = false → ((gi ((cfgL n k).map (mvL n es (cfgL n k))) (c : Nat)).take s.1).all (fun y => !canB (netW n es) (cfgL n k) z.2 (x : Nat) y) = true) ∧ (s.2 = true → vB (cnI n k es) z.2 (c : Nat) (x : Nat) = true)) (fun s => (gi ((cfgL n k).map (mvL n es (cfgL n k))) (c : Nat)).length - s.1) (0, false) ?_ ?_ ?_
                · exact ⟨Nat.zero_le _, fun _ => by simp, fun h => by cases h⟩
                ·
                  refine Le_sub C _ _ ⟨rfl, ⟨rfl, ⟨rfl, ⟨rfl, ⟨rfl, ⟨(eqv rfl (vb (by simp))), ⟨rfl, ⟨rfl, ⟨rfl, trivial⟩⟩⟩⟩⟩⟩⟩⟩⟩ ⟨rfl, ⟨rfl, ⟨(eqv rfl (by rw [drop_cons (l := gi z.2 (c : Nat)) (by omega)]; simp)), trivial⟩⟩⟩ rfl rfl
                ·
                  intro s hR
                  obtain ⟨hs1, hs2, hs3⟩ := hR
                  refine J_seq ?_
                  refine J_seq ?_
                  refine J_region ?_
                  refine jl rfl rfl (ltn hn rfl) (pure_move rfl rfl) ?_
                  refine jl rfl rfl (ltn hn rfl) (p_fld_b rfl rfl rfl) ?_
                  refine jl rfl rfl (ltn hn rfl) (p_ld_b rfl rfl rfl rfl) ?_
                  refine jl rfl rfl (ltn hn rfl) (pure_move rfl rfl) ?_
                  refine jl rfl rfl (ltn hn rfl) (p_idx rfl rfl rfl (by first | omega | (rw [List.length_map]; omega) | (rw [mid_len, List.length_map, List.length_drop]; omega)) (mget (by first | omega | (rw [List.length_map]; omega) | (rw [mid_len, List.length_map, List.length_drop]; omega)))) ?_
                  refine jl rfl rfl (ltn hn rfl) (p_ld rfl rfl rfl) ?_
                  refine jl rfl rfl (ltn hn rfl) (p_len_m rfl rfl) ?_
                  refine jl rfl rfl (ltn hn rfl) (pure_lss rfl rfl rfl) ?_
                  refine jl rfl rfl (ltn hn rfl) (pure_move rfl rfl) ?_
                  refine jl_split rfl rfl rfl (fun h6 => ?_) (fun h6 => ?_)
                  ·
                    refine jl rfl rfl (ltn hn rfl) (pure_move rfl rfl) ?_
                    refine jl rfl rfl (ltn hn rfl) (pure_move rfl rfl) ?_
                    refine jl rfl rfl (ltn hn rfl) (p_idx_own_m rfl rfl rfl rfl (by first | omega | (rw [List.length_map]; omega) | (rw [mid_len, List.length_map, List.length_drop]; omega)) (by first | omega | (rw [List.length_map]; omega) | (rw [mid_len, List.length_map, List.length_drop]; omega))) ?_
                    refine jl rfl rfl (ltn hn rfl) (p_ld_o rfl rfl rfl rfl (mget (by first | omega | (rw [List.length_map]; omega) | (rw [mid_len, List.length_map, List.length_drop]; omega))) rfl) ?_
                    refine jl rfl rfl (ltn hn rfl) (pure_lss rfl rfl rfl) ?_
                    refine jl rfl rfl (ltn hn rfl) (pure_pick_t rfl rfl rfl) ?_
                    refine JL_nil ?_
                    refine J_cond_p rfl (fun h7 => ?_) (fun h7 => ?_)
                    ·
                      rw [mid_gi (by rw [List.length_map]; exact hil)] at h7
                      have hsf : s.2 = false := by cases hb : s.2 with | false => rfl | true => rw [hb, if_pos rfl] at h7; omega
                      have h7o : (gi (gi z.2 (c : Nat)) (x : Nat)) < 0 := by rw [hsf] at h7; simpa using h7
                      have hmb : 0 ≤ gi (gi ((cfgL n k).map (mvL n es (cfgL n k))) (c : Nat)) (s.1 : Nat) ∧ gi (gi ((cfgL n k).map (mvL n es (cfgL n k))) (c : Nat)) (s.1 : Nat) < (cfgL n k).length := mv_bd hn8 hk (gi_mem (l := (cfgL n k)) (i := c) (by omega)) _ (by have := gi_mem (l := (gi ((cfgL n k).map (mvL n es (cfgL n k))) (c : Nat))) (i := s.1) h6; rwa [gi_map (by omega)] at this ⊢)
                      have hcx : (gi (cfgL n k) (gi (gi ((cfgL n k).map (mvL n es (cfgL n k))) (c : Nat)) (s.1 : Nat))).length < 2 ^ 40 := by have := (hcm _ (gi_memI (l := (cfgL n k)) (x := gi (gi ((cfgL n k).map (mvL n es (cfgL n k))) (c : Nat)) (s.1 : Nat)) (by omega))).1; omega
                      have hbx : gi ((ints n).map (ballG n es)) (x : Nat) = ballG n es (x : Nat) := gi_ints (by omega)
                      have hbx1 : (gi ((ints n).map (ballG n es)) (x : Nat)).length < 2 ^ 40 := by rw [hbx]; have := ball_len hn8 es (x : Nat); omega
                      have hbb : ∀ b ∈ gi ((ints n).map (ballG n es)) (x : Nat), 0 ≤ b ∧ b.toNat < (gi z.2 (gi (gi ((cfgL n k).map (mvL n es (cfgL n k))) (c : Nat)) (s.1 : Nat))).length := fun b hb => by rw [hbx] at hb; have h1 := ((mem_ball (by omega)).1 hb).1; have h2 := hz1.row _ (gi_memI (l := z.2) (x := gi (gi ((cfgL n k).map (mvL n es (cfgL n k))) (c : Nat)) (s.1 : Nat)) (by omega)); omega
                      refine J_skip ?_
                      refine J_seq ?_
                      refine J_block ?_
                      refine J_seq ?_
                      refine J_draw follows_mixed (by kernel_rfl) ?_
                      refine jq rfl rfl (ltn hn rfl) (p_ld_ba rfl rfl rfl (Nat.le_of_ble_eq_true rfl) rfl) ?_
                      refine jq rfl rfl (ltn hn rfl) (pure_move rfl rfl) ?_
                      refine jq rfl rfl (ltn hn rfl) (p_fld_b rfl rfl rfl) ?_
                      refine jq rfl rfl (ltn hn rfl) (p_ld_b rfl rfl rfl rfl) ?_
                      refine jq rfl rfl (ltn hn rfl) (pure_move rfl rfl) ?_
                      refine jq rfl rfl (ltn hn rfl) (p_idx rfl rfl rfl (by first | omega | (rw [List.length_map]; omega) | (rw [mid_len, List.length_map, List.length_drop]; omega)) (mget (by first | omega | (rw [List.length_map]; omega) | (rw [mid_len, List.length_map, List.length_drop]; omega)))) ?_
                      refine jq rfl rfl (ltn hn rfl) (p_ld rfl rfl rfl) ?_
                      refine jq rfl rfl (ltn hn rfl) (pure_move rfl rfl) ?_
                      refine jq rfl rfl (ltn hn rfl) (p_idx rfl rfl rfl (by omega) (mget (by omega))) ?_
                      refine jq rfl rfl (ltn hn rfl) (p_ld rfl rfl rfl) ?_
                      refine jq rfl rfl (ltn hn rfl) (pure_move rfl rfl) ?_
                      refine JQ_call (args := [.tmp 84, .tmp 85, .tmp 93, .tmp 94]) rfl (After_spec (cfgL n k) ((cfgL n k).map (mvL n es (cfgL n k))) ((ints n).map (ballG n es)) z.2 (gi (gi ((cfgL n k).map (mvL n es (cfgL n k))) (c : Nat)) (s.1 : Nat)) (x : Nat) hmb.1 (by omega) (by omega) (by omega) (by omega) hbx1 hcx hbb) rfl Tryz.func111 rfl rfl rfl (ltn hn rfl) ⟨rfl, rfl, ⟨rfl, rfl, ⟨rfl, rfl, ⟨rfl, rfl, trivial⟩⟩⟩⟩ ?_
                      refine jq rfl rfl (ltn hn rfl) (pure_geq rfl rfl rfl) ?_
                      refine JQ_nil ?_
                      refine J_cond_p rfl (fun h8 => ?_) (fun h8 => ?_)
                      ·
                        refine J_seq ?_
                        refine J_region ?_
                        refine jl rfl rfl (ltn hn rfl) (pure_move rfl rfl) ?_
                        refine jl rfl rfl (ltn hn rfl) (pure_move rfl rfl) ?_
                        refine jl rfl rfl (ltn hn rfl) (pure_move rfl rfl) ?_
                        refine jl rfl rfl (ltn hn rfl) (p_idx_own_m rfl rfl rfl rfl (by first | omega | (rw [List.length_map]; omega) | (rw [mid_len, List.length_map, List.length_drop]; omega)) (by first | omega | (rw [List.length_map]; omega) | (rw [mid_len, List.length_map, List.length_drop]; omega))) ?_
                        refine jl_o rfl (@op_store_row_m _ _ _ _ _ cI _ _ _ _ _ _ _ _ _ SzT.out rfl rfl rfl rfl rfl rfl rfl rfl (fun _ => rfl) (by first | omega | (rw [List.length_map]; omega) | (rw [mid_len, List.length_map, List.length_drop]; omega))) ?_
                        refine JL_nil ?_
                        refine J_region ?_
                        refine jl rfl rfl (ltn hn rfl) (pure_assign rfl rfl) ?_
                        refine JL_nil ?_
                        refine J_region ?_
                        refine jl rfl rfl (ltn hn rfl) (pure_move rfl rfl) ?_
                        refine jl rfl rfl (ltn hn rfl) (pure_add rfl rfl rfl (by omega)) ?_
                        refine jl rfl rfl (ltn hn rfl) (pure_assign rfl rfl) ?_
                        refine JL_nil ?_
                        refine ⟨(s.1 + 1, true), ?_, ?_, ?_⟩
                        · exact ⟨by simp only []; omega, fun h => (by cases h), fun _ => vB_t h7o (List.any_eq_true.2 ⟨_, gi_mem (l := (gi ((cfgL n k).map (mvL n es (cfgL n k))) (c : Nat))) (i := s.1) (by omega), by rw [canB_after hG (by omega)]; exact decide_eq_true h8⟩)⟩
                        · simp only []; omega
                        ·
                          refine Le_sub C _ _ ⟨rfl, ⟨rfl, ⟨rfl, ⟨rfl, ⟨rfl, ⟨(eqv rfl (vb (by simp))), ⟨rfl, ⟨rfl, ⟨(eqv rfl (vi (by simp only []; omega))), trivial⟩⟩⟩⟩⟩⟩⟩⟩⟩ ⟨rfl, ⟨rfl, ⟨(eqv rfl (by rw [mid_set (by rw [List.length_map]; exact hil)]; simp)), trivial⟩⟩⟩ rfl rfl
                      ·
                        refine J_skip ?_
                        refine J_region ?_
                        refine jl rfl rfl (ltn hn rfl) (pure_move rfl rfl) ?_
                        refine jl rfl rfl (ltn hn rfl) (pure_add rfl rfl rfl (by omega)) ?_
                        refine jl rfl rfl (ltn hn rfl) (pure_assign rfl rfl) ?_
                        refine JL_nil ?_
                        refine ⟨(s.1 + 1, s.2), ?_, ?_, ?_⟩
                        · exact ⟨by simp only []; omega, fun h => all_step' h6 (hs2 h) (by rw [canB_after hG (by omega)]; simp only [Bool.not_eq_true', decide_eq_false_iff_not]; exact h8), hs3⟩
                        · simp only []; omega
                        ·
                          refine Le_sub C _ _ ⟨rfl, ⟨rfl, ⟨rfl, ⟨rfl, ⟨rfl, ⟨rfl, ⟨rfl, ⟨rfl, ⟨(eqv rfl (vi (by simp only []; omega))), trivial⟩⟩⟩⟩⟩⟩⟩⟩⟩ ⟨rfl, ⟨rfl, ⟨rfl, trivial⟩⟩⟩ rfl rfl
                    ·
                      refine J_exit ?_
                      refine J_region ?_
                      refine jl rfl rfl (ltn hn rfl) (pure_move rfl rfl) ?_
                      refine jl rfl rfl (ltn hn rfl) (pure_add rfl rfl rfl (by omega)) ?_
                      refine jl rfl rfl (ltn hn rfl) (pure_assign rfl rfl) ?_
                      refine JL_nil ?_
                      rw [mid_gi (by rw [List.length_map]; exact hil)] at h7
                      have hv : vB (cnI n k es) z.2 (c : Nat) (x : Nat) = s.2 := by
                        cases hb : s.2 with
                        | true => exact hs3 hb
                        | false => rw [hb] at h7; exact eq_false_of_ne_true (vB_n (by simpa using h7))
                      refine ⟨x + 1, ?_, ?_, ?_⟩
                      · omega
                      · omega
                      ·
                        refine Le_sub C _ _ ⟨rfl, ⟨rfl, ⟨rfl, ⟨rfl, ⟨rfl, ⟨(eqv rfl (vb (by rw [filt_snoc, hv]; cases s.2 <;> simp <;> omega))), ⟨rfl, ⟨(eqv rfl (vi (by omega))), trivial⟩⟩⟩⟩⟩⟩⟩⟩ ⟨rfl, ⟨rfl, ⟨(eqv rfl (by rw [row_next (f := (fun x => stepV (cnI n k es) z.2 ((z.1 : Int) + 1) (c : Nat) x)) (v := if s.2 = true then ((z.1 : Int) + 1) else (gi (gi z.2 (c : Nat)) (x : Nat))) (by show (if vB _ _ _ _ = true then _ else _) = _; rw [hv])])), trivial⟩⟩⟩ rfl rfl
                  ·
                    refine jl_s rfl rfl (ltn hn rfl) ?_
                    refine jl_s rfl rfl (ltn hn rfl) ?_
                    refine jl_s rfl rfl (ltn hn rfl) ?_
                    refine jl_s rfl rfl (ltn hn rfl) ?_
                    refine jl_s rfl rfl (ltn hn rfl) ?_
                    refine jl rfl rfl (ltn hn rfl) (pure_pick_f rfl rfl rfl) ?_
                    refine JL_nil ?_
                    refine J_cond_f rfl ?_
                    refine J_exit ?_
                    refine J_region ?_
                    refine jl rfl rfl (ltn hn rfl) (pure_move rfl rfl) ?_
                    refine jl rfl rfl (ltn hn rfl) (pure_add rfl rfl rfl (by omega)) ?_
                    refine jl rfl rfl (ltn hn rfl) (pure_assign rfl rfl) ?_
                    refine JL_nil ?_
                    have hv : vB (cnI n k es) z.2 (c : Nat) (x : Nat) = s.2 := by
                      cases hb : s.2 with
                      | true => exact hs3 hb
                      | false => exact eq_false_of_ne_true (vB_f (any_take (hs2 hb) h6))
                    refine ⟨x + 1, ?_, ?_, ?_⟩
                    · omega
                    · omega
                    ·
                      refine Le_sub C _ _ ⟨rfl, ⟨rfl, ⟨rfl, ⟨rfl, ⟨rfl, ⟨(eqv rfl (vb (by rw [filt_snoc, hv]; cases s.2 <;> simp <;> omega))), ⟨rfl, ⟨(eqv rfl (vi (by omega))), trivial⟩⟩⟩⟩⟩⟩⟩⟩ ⟨rfl, ⟨rfl, ⟨(eqv rfl (by rw [row_next (f := (fun x => stepV (cnI n k es) z.2 ((z.1 : Int) + 1) (c : Nat) x)) (v := if s.2 = true then ((z.1 : Int) + 1) else (gi (gi z.2 (c : Nat)) (x : Nat))) (by show (if vB _ _ _ _ = true then _ else _) = _; rw [hv])])), trivial⟩⟩⟩ rfl rfl
              ·
                have hlr : (List.range c).length = c := List.length_range
                have hil : (ints x).length = x := ints_length x
                have hxn : x = n := by rw [List.length_append, List.length_map, hil, List.length_drop] at h5; omega
                refine J_exit ?_
                refine J_region ?_
                refine jl rfl rfl (ltn hn rfl) (pure_move rfl rfl) ?_
                refine jl rfl rfl (ltn hn rfl) (pure_move rfl rfl) ?_
                refine JL_le (Le_frz 60 rfl rfl) ?_
                refine jl_o rfl (@op_lit1 _ _ _ _ _ cL _ _ _ _ _ _ _ SlT.slk rfl rfl (ltn hn rfl) rfl rfl rfl rfl rfl) ?_
                refine jl_o rfl (op_append_m SlT.slk rfl rfl (ltn hn rfl) rfl rfl (src_own_m rfl rfl) (by first | omega | (simp only [List.length_append, List.length_cons, List.length_nil, List.length_take, List.length_drop, List.length_map]; omega)) (by first | omega | (simp only [List.length_append, List.length_cons, List.length_nil, List.length_take, List.length_drop, List.length_map]; omega))) ?_
                refine jl rfl rfl (ltn hn rfl) (pure_assign rfl rfl) ?_
                refine JL_nil ?_
                refine J_region ?_
                refine jl rfl rfl (ltn hn rfl) (pure_move rfl rfl) ?_
                refine jl rfl rfl (ltn hn rfl) (pure_add rfl rfl rfl (by omega)) ?_
                refine jl rfl rfl (ltn hn rfl) (pure_assign rfl rfl) ?_
                refine JL_nil ?_
                refine ⟨c + 1, ?_, ?_, ?_⟩
                · omega
                · omega
                ·
                  refine Le_sub C _ _ ⟨rfl, ⟨rfl, ⟨rfl, ⟨rfl, ⟨(eqv rfl (vi (by omega))), ⟨(eqv rfl (vb (by rw [fr_next]; unfold frC; rw [hxn]))), trivial⟩⟩⟩⟩⟩⟩ ⟨rfl, ⟨(eqv rfl (by rw [List.range_succ, List.map_append, hxn, List.drop_eq_nil_of_le (by omega), List.append_nil]; rfl)), trivial⟩⟩ rfl rfl
          ·
            refine J_exit ?_
            refine J_seq ?_
            refine J_region ?_
            refine jl rfl rfl (ltn hn rfl) (pure_move rfl rfl) ?_
            refine jl rfl rfl (ltn hn rfl) (pure_assign rfl rfl) ?_
            refine JL_nil ?_
            refine J_seq ?_
            refine J_region ?_
            refine jl rfl rfl (ltn hn rfl) (pure_move rfl rfl) ?_
            refine jl rfl rfl (ltn hn rfl) (pure_not_b rfl rfl) ?_
            refine JL_nil ?_
            refine J_cond rfl (fun h9 => ?_) (fun h9 => ?_)
            ·
              refine J_seq ?_
              refine J_region ?_
              refine jl rfl rfl (ltn hn rfl) (pure_move rfl rfl) ?_
              refine jl rfl rfl (ltn hn rfl) (pure_assign rfl rfl) ?_
              refine JL_nil ?_
              refine J_ret ?_
              have hce : c = (cfgL n k).length := by have := hz1.len; omega
              have hst := step_TT hz1 hz3
              exact Fin_one rfl (Le.trans (Le_frz 49 rfl rfl) (Le_one rfl (congrArg LL (by rw [← hst.2 (by rw [decide_eq_false_iff_not]; unfold frA; rw [← hce]; simpa using h9), ← hce]; rfl)) rfl))
            ·
              refine J_skip ?_
              refine J_region ?_
              refine jl rfl rfl (ltn hn rfl) (pure_move rfl rfl) ?_
              refine jl rfl rfl (ltn hn rfl) (pure_add rfl rfl rfl (by omega)) ?_
              refine jl rfl rfl (ltn hn rfl) (pure_assign rfl rfl) ?_
              refine JL_nil ?_
              have hce : c = (cfgL n k).length := by have := hz1.len; omega
              have hst := step_TT hz1 hz3
              have hne : 0 < (frA (cnI n k es) (cfgL n k).length n z.2).length := by unfold frA; rw [← hce]; simpa using h9
              have hng := negs_step (cn := (cnI n k es)) hz1 (show (0 : Int) < (z.1 : Int) + 1 by omega) (by omega)
              refine ⟨(z.1 + 1, stepT (cnI n k es) (cfgL n k).length n z.2 ((z.1 : Int) + 1)), ?_, ?_, ?_⟩
              · exact ⟨stepT_ok hz1 (by omega) (by simp only []; omega) (by simp only []; omega), by simp only []; omega, hst.1 (decide_eq_true hne)⟩
              · simp only []; omega
              ·
                refine Le.trans (Le_frz 49 rfl rfl) ?_
                refine Le_sub C _ _ ⟨rfl, ⟨(eqv rfl (congrArg LL (by rw [hce]; rfl))), ⟨(eqv rfl (vi (by simp only []; omega))), trivial⟩⟩⟩ ⟨rfl, trivial⟩ rfl rfl
end Go.Proofs.YtmiijpobhajfmaaGreat.J
