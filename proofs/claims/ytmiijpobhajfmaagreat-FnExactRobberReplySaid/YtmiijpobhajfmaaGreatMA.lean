/- Parts of a small logic over the program, and walks in it. No statement of the seat is proved in this text. -/
import Derived.Below
import Derived.Laws.OwnMore
import Derived.Deep.Quiet
import Derived.Tactics
import Derived.Great.BuildSlice
namespace Go.Proofs.YtmiijpobhajfmaaGreat.J
open Go Go.RowKit
set_option linter.unusedVariables false
set_option linter.unusedSimpArgs false

/-! ### 1. Abstract values -/
inductive AV where
  | junk
  | val (v : Value)
  | agg (cs : List AV)
  | tup (cs : List AV)
  | sl (sz : Nat) (xs : List (List AV))
  | ref (cs : List AV)
  | own (i : Nat) (p : List Nat)
  | box (i off : Nat)
  | oref (i : Nat) (p : List Nat) (sz j c : Nat)
  | clo (g nf : Nat) (cs : List AV)
  | part (i : Nat) (p : List Nat) (sz l n : Nat)

/-- What a call has made: rows of plain cells, rows of such rows. -/
inductive Tr where
  | leaf (e sz : Nat) (xs : List (List AV))
  | node (e : Nat) (ts : List Tr)
  | rv (sz : Nat) (xs : List (List AV))
def Tr.get : Tr → List Nat → Option Tr
  | t, [] => some t
  | .leaf _ _ _, _ :: _ => none
  | .rv _ _, _ :: _ => none
  | .node _ ts, j :: p => match ts[j]? with
    | some t => t.get p
    | none => none
inductive Obj where
  | tree (t : Tr)
  | box (T : Nat) (cs : List AV)
  | mp (ks : List Value)
def Obj.has : Obj → List Nat → Prop
  | .tree t, p => ∃ t', t.get p = some t'
  | .box _ _, p => p = []
  | .mp _, p => p = []

structure AS where
  env : List (Nat × AV)
  objs : List (Nat × Obj)

def lk {β : Type} (t : Nat) : List (Nat × β) → Option β
  | [] => none
  | (k, v) :: r => bif Nat.beq k t then some v else lk t r
def rm {β : Type} (t : Nat) : List (Nat × β) → List (Nat × β)
  | [] => []
  | (k, v) :: r => bif Nat.beq k t then rm t r else (k, v) :: rm t r
theorem lk_rm {β : Type} (t s : Nat) : ∀ l : List (Nat × β), lk s (rm t l) = if t = s then none else lk s l
  | [] => by simp [lk, rm]
  | (k, v) :: r => by
    have ih := lk_rm t s r
    simp only [rm, lk]
    by_cases h : Nat.beq k t = true
    · have hk := Nat.eq_of_beq_eq_true h
      subst hk
      rw [h, cond_true, ih]
      by_cases h2 : k = s
      · rw [if_pos h2, if_pos h2]
      · rw [if_neg h2, if_neg h2]
        have : Nat.beq k s = false := by
          cases e : Nat.beq k s
          · rfl
          · exact absurd (Nat.eq_of_beq_eq_true e) h2
        rw [this, cond_false]
    · have h' : Nat.beq k t = false := by
        cases e : Nat.beq k t
        · rfl
        · exact absurd e h
      rw [h', cond_false]
      simp only [lk]
      by_cases h2 : Nat.beq k s = true
      · have hk := Nat.eq_of_beq_eq_true h2
        subst hk
        rw [h2, cond_true, cond_true]
        rw [if_neg]
        intro e
        subst e
        rw [h2] at h'
        cases h'
      · have h2' : Nat.beq k s = false := by
          cases e : Nat.beq k s
          · rfl
          · exact absurd e h2
        rw [h2', cond_false, cond_false, ih]
theorem lk_cons {β : Type} (k t : Nat) (v : β) (r : List (Nat × β)) : lk t ((k, v) :: r) = if k = t then some v else lk t r := by
  simp only [lk]
  by_cases h : k = t
  · subst h
    rw [if_pos rfl, Nat.beq_refl, cond_true]
  · rw [if_neg h]
    have : Nat.beq k t = false := by
      cases e : Nat.beq k t
      · rfl
      · exact absurd (Nat.eq_of_beq_eq_true e) h
    rw [this, cond_false]

/-! ### 2. What an abstract value says -/
inductive RO (w : World) (ok : Nat → Prop) : AV → Value → Prop
  | junk (v : Value) : RO w ok .junk v
  | val (v : Value) : RO w ok (.val v) v
  | agg (cs : List AV) (vs : Array Value) (hl : vs.size = cs.length) (h : ∀ (j : Nat) a u, cs[j]? = some a → vs[j]? = some u → RO w ok a u) : RO w ok (.agg cs) (.agg vs)
  | tup (cs : List AV) (vs : Array Value) (hl : vs.size = cs.length) (h : ∀ (j : Nat) a u, cs[j]? = some a → vs[j]? = some u → RO w ok a u) : RO w ok (.tup cs) (.tuple vs)
  | slNil (sz : Nat) : RO w ok (.sl sz []) (.slice none 0 0)
  | sl (sz : Nat) (xs : List (List AV)) (ad : Addr) (cap : Nat) (us : Nat → Nat → Value) (hn : xs.length ≤ cap) (hc : cap ≤ maxLen) (hok : ok ad.block) (hsz : ∀ x ∈ xs, x.length = sz)
      (hcell : ∀ (j : Nat) x (c : Nat) a, xs[j]? = some x → x[c]? = some a → w.cell? (ad.add (j * sz + c)) = some (us j c) ∧ (us j c).oneCell' = true)
      (h : ∀ (j : Nat) x (c : Nat) a, xs[j]? = some x → x[c]? = some a → RO w ok a (us j c)) : RO w ok (.sl sz xs) (.slice (some ad) xs.length cap)
  | ref (cs : List AV) (ad : Addr) (us : Nat → Value) (hok : ok ad.block) (hcell : ∀ (c : Nat) a, cs[c]? = some a → w.cell? (ad.add c) = some (us c) ∧ (us c).oneCell' = true)
      (h : ∀ (c : Nat) a, cs[c]? = some a → RO w ok a (us c)) : RO w ok (.ref cs) (.pointer (some ad))
  | clo (g nf : Nat) (cs : List AV) (vf vc : Array Value) (hl : (vf ++ vc).size = cs.length) (hn : vf.size = nf) (h : ∀ (j : Nat) a u, cs[j]? = some a → (vf ++ vc)[j]? = some u → RO w ok a u) : RO w ok (.clo g nf cs) (.func (.func g) vf vc)

theorem RO.move {w w1 : World} {ok ok1 : Nat → Prop} {a : AV} {v : Value} (h : RO w ok a v) (hm : ∀ k, ok k → w1.heap[k]? = w.heap[k]?) (hk : ∀ k, ok k → ok1 k) : RO w1 ok1 a v := by
  induction h with
  | junk v => exact .junk v
  | val v => exact .val v
  | agg cs vs hl _ ih => exact .agg cs vs hl ih
  | tup cs vs hl _ ih => exact .tup cs vs hl ih
  | clo g nf cs vf vc hl hn _ ih => exact .clo g nf cs vf vc hl hn ih
  | slNil sz => exact .slNil sz
  | sl sz xs ad cap us hn hc hok hsz hcell _ ih =>
    exact .sl sz xs ad cap us hn hc (hk _ hok) hsz (fun j x c a hx ha => ⟨by
      rw [World.cell?_of_block (w := w)]
      · exact (hcell j x c a hx ha).1
      · have : (ad.add (j * sz + c)).block = ad.block := by unfold Addr.add; split <;> rfl
        rw [this]
        exact hm _ hok, (hcell j x c a hx ha).2⟩) ih
  | ref cs ad us hok hcell _ ih =>
    exact .ref cs ad us (hk _ hok) (fun c a ha => ⟨by
      rw [World.cell?_of_block (w := w)]
      · exact (hcell c a ha).1
      · have : (ad.add c).block = ad.block := by unfold Addr.add; split <;> rfl
        rw [this]
        exact hm _ hok, (hcell c a ha).2⟩) ih

/-- Through a row of rows to one of them. -/
def At (w : World) (S : List Nat) : Value → List Nat → Value → Prop
  | v, [], u => u = v
  | v, j :: p, u => ∃ g n cap y, v = .slice (some ⟨g, 0, none⟩) n cap ∧ g ∈ S ∧ w.cell? ⟨g, j, none⟩ = some y ∧ At w S y p u
theorem At.move {w w1 : World} {S : List Nat} (hm : ∀ k ∈ S, w1.heap[k]? = w.heap[k]?) : ∀ {p : List Nat} {v u : Value}, At w S v p u → At w1 S v p u
  | [], _, _, h => h
  | _ :: _, _, _, ⟨g, n, cap, y, h1, h2, h3, h4⟩ => ⟨g, n, cap, y, h1, h2, by rw [World.cell?_of_block (w := w) (hm g h2)]; exact h3, At.move hm h4⟩
inductive Rep (w : World) (ok : Nat → Prop) (ids : Nat → List Nat → Prop) (ψ : Nat → List Nat) (φ : Nat → Value) : AV → Value → Prop
  | ro {a : AV} {v : Value} (h : RO w ok a v) : Rep w ok ids ψ φ a v
  | own (i : Nat) (p : List Nat) (v : Value) (h : ids i p) (ha : At w (ψ i) (φ i) p v) : Rep w ok ids ψ φ (.own i p) v
  | box (i off b : Nat) (h : ids i []) (hb : φ i = .pointer (some ⟨b, 0, none⟩)) : Rep w ok ids ψ φ (.box i off) (.pointer (some ⟨b, off, none⟩))
  | oref (i : Nat) (p : List Nat) (sz j c g n cap : Nat) (h : ids i p) (ha : At w (ψ i) (φ i) p (.slice (some ⟨g, 0, none⟩) n cap)) : Rep w ok ids ψ φ (.oref i p sz j c) (.pointer (some ⟨g, j * sz + c, none⟩))
  | agg (cs : List AV) (vs : Array Value) (hl : vs.size = cs.length) (h : ∀ (j : Nat) a u, cs[j]? = some a → vs[j]? = some u → Rep w ok ids ψ φ a u) : Rep w ok ids ψ φ (.agg cs) (.agg vs)
  | tup (cs : List AV) (vs : Array Value) (hl : vs.size = cs.length) (h : ∀ (j : Nat) a u, cs[j]? = some a → vs[j]? = some u → Rep w ok ids ψ φ a u) : Rep w ok ids ψ φ (.tup cs) (.tuple vs)
  | clo (g nf : Nat) (cs : List AV) (vf vc : Array Value) (hl : (vf ++ vc).size = cs.length) (hn : vf.size = nf) (h : ∀ (j : Nat) a u, cs[j]? = some a → (vf ++ vc)[j]? = some u → Rep w ok ids ψ φ a u) : Rep w ok ids ψ φ (.clo g nf cs) (.func (.func g) vf vc)
  | part (i : Nat) (p : List Nat) (sz l n m cap : Nat) (A : Option Addr) (h : ids i p) (ha : At w (ψ i) (φ i) p (.slice A m cap)) (hl : l ≤ n) (hn : n ≤ m) (hm : m ≤ cap) : Rep w ok ids ψ φ (.part i p sz l n) (.slice (if cap = l then A else A.map (·.add (l * sz))) (n - l) (cap - l))

/-- The handles' side of a move: same handles, same footprints, and the paths lead where they led. -/
structure Mv (w w1 : World) (ids ids1 : Nat → List Nat → Prop) (ψ ψ1 : Nat → List Nat) (φ φ1 : Nat → Value) : Prop where
  id_ : ∀ i p, ids i p → ids1 i p
  val : ∀ i p, ids i p → φ1 i = φ i
  at_ : ∀ i p v, ids i p → At w (ψ i) (φ i) p v → At w1 (ψ1 i) (φ i) p v
theorem Mv.of_same {w w1 : World} {ids ids1 : Nat → List Nat → Prop} {ψ ψ1 : Nat → List Nat} {φ φ1 : Nat → Value} (h1 : ∀ i p, ids i p → ids1 i p) (h2 : ∀ i p, ids i p → φ1 i = φ i ∧ ψ1 i = ψ i) (h3 : ∀ i p, ids i p → ∀ k ∈ ψ i, w1.heap[k]? = w.heap[k]?) : Mv w w1 ids ids1 ψ ψ1 φ φ1 :=
  ⟨h1, fun i p h => (h2 i p h).1, fun i p v h ha => by rw [(h2 i p h).2]; exact ha.move (h3 i p h)⟩
theorem Rep.move {w w1 : World} {ok ok1 : Nat → Prop} {ids ids1 : Nat → List Nat → Prop} {ψ ψ1 : Nat → List Nat} {φ φ1 : Nat → Value} {a : AV} {v : Value} (h : Rep w ok ids ψ φ a v) (hm : ∀ k, ok k → w1.heap[k]? = w.heap[k]?) (hk : ∀ k, ok k → ok1 k)
    (hv : Mv w w1 ids ids1 ψ ψ1 φ φ1) : Rep w1 ok1 ids1 ψ1 φ1 a v := by
  induction h with
  | ro h => exact .ro (h.move hm hk)
  | own i p v h ha => exact .own i p v (hv.id_ i p h) (by rw [hv.val i p h]; exact hv.at_ i p v h ha)
  | box i off b h hb => exact .box i off b (hv.id_ i [] h) (by rw [hv.val i [] h]; exact hb)
  | oref i p sz j c g n cap h ha => exact .oref i p sz j c g n cap (hv.id_ i p h) (by rw [hv.val i p h]; exact hv.at_ i p _ h ha)
  | agg cs vs hl _ ih => exact .agg cs vs hl ih
  | tup cs vs hl _ ih => exact .tup cs vs hl ih
  | clo g nf cs vf vc hl hn _ ih => exact .clo g nf cs vf vc hl hn ih
  | part i p sz l n m cap A h ha hl hn hm => exact .part i p sz l n m cap A (hv.id_ i p h) (by rw [hv.val i p h]; exact hv.at_ i p _ h ha) hl hn hm

/-- The block that a handle leads to. -/
def blk : Value → Option Nat
  | .slice (some a) _ _ => some a.block
  | .pointer (some a) => some a.block
  | _ => none
theorem blk_slice (v : Value) (h : ∀ p, v ≠ .pointer p) : blk v = v.ownBlock := by
  cases v with
  | slice a n c => cases a <;> rfl
  | pointer p => exact absurd rfl (h p)
  | _ => rfl

/-- The flat cells of a row's elements. -/
structure Flat (w : World) (ok : Nat → Prop) (sz : Nat) (xs : List (List AV)) (vs : List Value) : Prop where
  len : vs.length = xs.length * sz
  one : ∀ u ∈ vs, u.oneCell' = true
  sz_ : ∀ x ∈ xs, x.length = sz
  at_ : ∀ (j : Nat) x (c : Nat) a, xs[j]? = some x → x[c]? = some a → ∃ u, vs[j * sz + c]? = some u ∧ RO w ok a u
theorem Flat.move {w w1 : World} {ok ok1 : Nat → Prop} {sz : Nat} {xs : List (List AV)} {vs : List Value} (h : Flat w ok sz xs vs) (hm : ∀ k, ok k → w1.heap[k]? = w.heap[k]?) (hk : ∀ k, ok k → ok1 k) : Flat w1 ok1 sz xs vs :=
  ⟨h.len, h.one, h.sz_, fun j x c a hx ha => let ⟨u, hu, hr⟩ := h.at_ j x c a hx ha; ⟨u, hu, hr.move hm hk⟩⟩
theorem Flat.nil (w : World) (ok : Nat → Prop) (sz : Nat) : Flat w ok sz [] [] := ⟨by simp, by simp, by simp, fun j x c a hx => by simp at hx⟩
theorem Flat.append {w : World} {ok : Nat → Prop} {sz : Nat} {xs ys : List (List AV)} {vs us : List Value} (h : Flat w ok sz xs vs) (k : Flat w ok sz ys us) : Flat w ok sz (xs ++ ys) (vs ++ us) := by
  refine ⟨by rw [List.length_append, h.len, k.len, List.length_append, Nat.add_mul], fun u hu => ?_, fun x hx => ?_, fun j x c a hx ha => ?_⟩
  · rcases List.mem_append.1 hu with hu | hu
    · exact h.one u hu
    · exact k.one u hu
  · rcases List.mem_append.1 hx with hx | hx
    · exact h.sz_ x hx
    · exact k.sz_ x hx
  · rcases Nat.lt_or_ge j xs.length with hj | hj
    · rw [List.getElem?_append_left hj] at hx
      obtain ⟨u, hu, hr⟩ := h.at_ j x c a hx ha
      refine ⟨u, ?_, hr⟩
      rw [List.getElem?_append_left]
      · exact hu
      · exact (List.getElem?_eq_some_iff.1 hu).1
    · rw [List.getElem?_append_right hj] at hx
      obtain ⟨u, hu, hr⟩ := k.at_ (j - xs.length) x c a hx ha
      refine ⟨u, ?_, hr⟩
      have e : j * sz + c - vs.length = (j - xs.length) * sz + c := by
        rw [h.len, Nat.sub_mul]
        have := Nat.mul_le_mul_right sz hj
        omega
      rw [List.getElem?_append_right, e]
      · exact hu
      · rw [h.len]
        have := Nat.mul_le_mul_right sz hj
        omega

/-- A tree's rows in memory, and the blocks that they lie in. -/
inductive TreeAt (w : World) (B : Nat) (ok : Nat → Prop) : Tr → Value → List Nat → Prop
  | leaf (e sz : Nat) (xs : List (List AV)) (v : Value) (vs : List Value) (ho : w.ownsRow B e sz v xs.length vs) (hf : Flat w ok sz xs vs) : TreeAt w B ok (.leaf e sz xs) v (blk v).toList
  | node (e : Nat) (ts : List Tr) (v : Value) (vs : List Value) (fps : List (List Nat)) (ho : w.ownsRow B e 1 v ts.length vs) (hl : fps.length = ts.length)
      (h : ∀ (j : Nat) t u f, ts[j]? = some t → vs[j]? = some u → fps[j]? = some f → TreeAt w B ok t u f) (hnd : ((blk v).toList ++ fps.flatten).Nodup) : TreeAt w B ok (.node e ts) v ((blk v).toList ++ fps.flatten)
  | rv (sz : Nat) (xs : List (List AV)) (v : Value) (hr : RO w ok (.sl sz xs) v) : TreeAt w B ok (.rv sz xs) v []

theorem owns_blk {w : World} {B : Nat} {e : TypeId} {size n : Nat} {v : Value} {xs : List Value} (h : w.ownsRow B e size v n xs) : blk v = v.ownBlock := blk_slice v (by
  rintro p rfl
  rcases h.2 with ⟨h, _⟩ | ⟨_, _, _, h, _⟩ <;> cases h)
theorem owns_lt {w : World} {B : Nat} {e : TypeId} {size n : Nat} {v : Value} {xs : List Value} (h : w.ownsRow B e size v n xs) : ∀ k ∈ (blk v).toList, B ≤ k ∧ k < w.heap.size := fun k hk =>
  h.lt k (by rw [← owns_blk h]; simpa using hk)
theorem ownsRow_move {w w1 : World} {base : Nat} {e : TypeId} {size n : Nat} {v : Value} {xs : List Value} (h : w.ownsRow base e size v n xs) (hm : ∀ k ∈ (blk v).toList, w1.heap[k]? = w.heap[k]?) : w1.ownsRow base e size v n xs := by
  obtain ⟨h1, h2⟩ := h
  refine ⟨h1, ?_⟩
  rcases h2 with h2 | ⟨g, cap, cur, rfl, hg, hh, r⟩
  · exact .inl h2
  · exact .inr ⟨g, cap, cur, rfl, hg, (hm g (by simp [blk])).trans hh, r⟩
theorem flatten_get {fps : List (List Nat)} {k : Nat} (h : k ∈ fps.flatten) : ∃ (j : Nat) (f : List Nat), fps[j]? = some f ∧ k ∈ f := by
  obtain ⟨f, hf, hk⟩ := List.mem_flatten.1 h
  obtain ⟨j, hj, e⟩ := List.mem_iff_getElem.1 hf
  exact ⟨j, f, by rw [List.getElem?_eq_getElem hj, e], hk⟩
theorem get_flatten {fps : List (List Nat)} {j k : Nat} {f : List Nat} (h : fps[j]? = some f) (hk : k ∈ f) : k ∈ fps.flatten := List.mem_flatten.2 ⟨f, List.mem_of_getElem? h, hk⟩
theorem TreeAt.lt {w : World} {B : Nat} {ok : Nat → Prop} {t : Tr} {v : Value} {fp : List Nat} (h : TreeAt w B ok t v fp) : ∀ k ∈ fp, B ≤ k ∧ k < w.heap.size := by
  induction h with
  | leaf e sz xs v vs ho hf => exact owns_lt ho
  | rv => intro k hk; cases hk
  | node e ts v vs fps ho hl h hnd ih =>
    intro k hk
    rcases List.mem_append.1 hk with hk | hk
    · exact owns_lt ho k hk
    · obtain ⟨j, f, hj, hkf⟩ := flatten_get hk
      have h1 : j < ts.length := by rw [← hl]; exact (List.getElem?_eq_some_iff.1 hj).1
      have h2 : j < vs.length := by rw [ho.1, Nat.mul_one]; exact h1
      exact ih j _ _ f (List.getElem?_eq_getElem h1) (List.getElem?_eq_getElem h2) hj k hkf
theorem TreeAt.move {w w1 : World} {B : Nat} {ok ok1 : Nat → Prop} {t : Tr} {v : Value} {fp : List Nat} (h : TreeAt w B ok t v fp) (hb : ∀ k ∈ fp, w1.heap[k]? = w.heap[k]?) (hm : ∀ k, ok k → w1.heap[k]? = w.heap[k]?) (hk : ∀ k, ok k → ok1 k) : TreeAt w1 B ok1 t v fp := by
  induction h with
  | leaf e sz xs v vs ho hf => exact .leaf e sz xs v vs (ownsRow_move ho hb) (hf.move hm hk)
  | rv sz xs v hr => exact .rv sz xs v (hr.move hm hk)
  | node e ts v vs fps ho hl h hnd ih =>
    exact .node e ts v vs fps (ownsRow_move ho (fun k hk => hb k (List.mem_append_left _ hk))) hl (fun j t u f h1 h2 h3 => ih j t u f h1 h2 h3 (fun k hk => hb k (List.mem_append_right _ (get_flatten h3 hk)))) hnd
theorem TreeAt.nodup {w : World} {B : Nat} {ok : Nat → Prop} {t : Tr} {v : Value} {fp : List Nat} (h : TreeAt w B ok t v fp) : fp.Nodup := by
  cases h with
  | leaf e sz xs v vs ho hf => cases blk v <;> simp
  | rv => simp
  | node e ts v vs fps ho hl h hnd => exact hnd
theorem TreeAt.slice {w : World} {B : Nat} {ok : Nat → Prop} {t : Tr} {v : Value} {fp : List Nat} (h : TreeAt w B ok t v fp) : ∃ A n cap, v = .slice A n cap := by
  cases h with
  | leaf e sz xs v vs ho hf => rcases ho.2 with ⟨h, _⟩ | ⟨_, _, _, h, _⟩ <;> exact ⟨_, _, _, h⟩
  | node e ts v vs fps ho hl h hnd => rcases ho.2 with ⟨h, _⟩ | ⟨_, _, _, h, _⟩ <;> exact ⟨_, _, _, h⟩
  | rv sz xs v hr => cases hr <;> exact ⟨_, _, _, rfl⟩

/-! ### 3. The heap of a state -/
structure Ctx where
  w0 : World
  n : Nat
  ok0 : Nat → Prop
  bor : Nat → Prop
  fix : Nat → Option Value
  hok0 : ∀ k, ok0 k → k < w0.heap.size
  hfix : ∀ i v, fix i = some v → 1000000 ≤ i
  hn6 : n ≤ 1000000

/-- The call's own blocks: what it has made, what it may change. -/
def Ctx.own (C : Ctx) (k : Nat) : Prop := C.w0.heap.size ≤ k ∨ C.bor k
structure Ch (w w1 : World) (may : Nat → Prop) : Prop where
  os : w1.os = w.os
  tape : w1.tape = w.tape
  output : w1.output = w.output
  size : w.heap.size ≤ w1.heap.size
  block : ∀ k, k < w.heap.size → ¬ may k → w1.heap[k]? = w.heap[k]?
theorem Ch.of_below {w w1 : World} {may : Nat → Prop} (h : Below w.heap.size w w1) : Ch w w1 may := ⟨h.os, h.tape, h.output, h.size, fun k hk _ => h.block k hk⟩
theorem Ch.refl (w : World) (X : Nat → Prop) : Ch w w X := .of_below (Below.refl _ _)
theorem Ch.trans {w w1 w2 : World} {may may2 : Nat → Prop} (h : Ch w w1 may) (h2 : Ch w1 w2 may2) (hm : ∀ k, k < w.heap.size → may2 k → may k) : Ch w w2 may :=
  ⟨h2.os.trans h.os, h2.tape.trans h.tape, h2.output.trans h.output, Nat.le_trans h.size h2.size, fun k hk hn => (h2.block k (Nat.lt_of_lt_of_le hk h.size) (fun h3 => hn (hm k hk h3))).trans (h.block k hk hn)⟩
theorem Ch.below {w w1 : World} {may : Nat → Prop} (h : Ch w w1 may) (hm : ∀ k, k < w.heap.size → ¬ may k) : Below w.heap.size w w1 := ⟨h.os, h.tape, h.output, h.size, fun k hk => h.block k hk (hm k hk)⟩
def idsS (os : List (Nat × Obj)) (i : Nat) (p : List Nat) : Prop := ∃ o, lk i os = some o ∧ o.has p
def okS (C : Ctx) (ψ : Nat → List Nat) (os : List (Nat × Obj)) (w : World) (k : Nat) : Prop :=
  (C.ok0 k ∨ C.own k) ∧ k < w.heap.size ∧ ∀ i o, lk i os = some o → k ∉ ψ i

/-- A map whose values are all true. -/
def MpAt (w : World) (B : Nat) (ks : List Value) (v : Value) (fp : List Nat) : Prop := ∃ b es clk, v = .map (some b) ∧ fp = [b] ∧ B ≤ b ∧ w.heap[b]? = some (.map es clk) ∧ es.toList.map (fun e => (e.key, e.val)) = ks.map (fun k => (k, .bool true))
theorem MpAt.lt {w : World} {B : Nat} {ks : List Value} {v : Value} {fp : List Nat} (h : MpAt w B ks v fp) : ∀ k ∈ fp, B ≤ k ∧ k < w.heap.size := by
  obtain ⟨b, es, clk, rfl, rfl, hB, hb, _⟩ := h
  intro k hk
  obtain rfl := List.mem_singleton.1 hk
  exact ⟨hB, (Array.getElem?_eq_some_iff.1 hb).1⟩
theorem MpAt.move {w w1 : World} {B : Nat} {ks : List Value} {v : Value} {fp : List Nat} (h : MpAt w B ks v fp) (hb : ∀ k ∈ fp, w1.heap[k]? = w.heap[k]?) : MpAt w1 B ks v fp := by
  obtain ⟨b, es, clk, rfl, rfl, hB, hc, h⟩ := h
  exact ⟨b, es, clk, rfl, rfl, hB, (hb b (by simp)).trans hc, h⟩
theorem MpAt.base {w : World} {B B' : Nat} {ks : List Value} {v : Value} {fp : List Nat} (h : MpAt w B ks v fp) (hB : B' ≤ B) : MpAt w B' ks v fp := by
  obtain ⟨b, es, clk, rfl, rfl, hB', hc, h⟩ := h
  exact ⟨b, es, clk, rfl, rfl, Nat.le_trans hB hB', hc, h⟩
def ObjAt (w : World) (B : Nat) (ok : Nat → Prop) (ids : Nat → List Nat → Prop) (ψ : Nat → List Nat) (φ : Nat → Value) : Obj → Value → List Nat → Prop
  | .tree t, v, fp => TreeAt w B ok t v fp
  | .mp ks, v, fp => MpAt w B ks v fp
  | .box T cs, v, fp => ∃ b cur, v = .pointer (some ⟨b, 0, none⟩) ∧ fp = [b] ∧ B ≤ b ∧ w.heap[b]? = some (.cells cur T (0, 0)) ∧ cur.size = cs.length ∧ (∀ u ∈ cur.toList, u.oneCell' = true) ∧
      ∀ (j : Nat) a u, cs[j]? = some a → cur[j]? = some u → Rep w ok ids ψ φ a u

theorem ObjAt.lt {w : World} {B : Nat} {ok : Nat → Prop} {ids : Nat → List Nat → Prop} {ψ : Nat → List Nat} {φ : Nat → Value} {o : Obj} {v : Value} {fp : List Nat} (h : ObjAt w B ok ids ψ φ o v fp) : ∀ k ∈ fp, B ≤ k ∧ k < w.heap.size := by
  cases o with
  | tree t => exact TreeAt.lt h
  | mp ks => exact MpAt.lt h
  | box T cs =>
    obtain ⟨b, cur, rfl, rfl, hB, hb, _⟩ := h
    intro k hk
    obtain rfl := List.mem_singleton.1 hk
    exact ⟨hB, (Array.getElem?_eq_some_iff.1 hb).1⟩
theorem ObjAt.move {w w1 : World} {B : Nat} {ok ok1 : Nat → Prop} {ids ids1 : Nat → List Nat → Prop} {ψ ψ1 : Nat → List Nat} {φ φ1 : Nat → Value} {o : Obj} {v : Value} {fp : List Nat} (h : ObjAt w B ok ids ψ φ o v fp) (hb : ∀ k ∈ fp, w1.heap[k]? = w.heap[k]?)
    (hm : ∀ k, ok k → w1.heap[k]? = w.heap[k]?) (hk : ∀ k, ok k → ok1 k) (hv : Mv w w1 ids ids1 ψ ψ1 φ φ1) : ObjAt w1 B ok1 ids1 ψ1 φ1 o v fp := by
  cases o with
  | tree t => exact TreeAt.move h hb hm hk
  | mp ks => exact MpAt.move h hb
  | box T cs =>
    obtain ⟨b, cur, rfl, rfl, hB, hc, hs, h1, hr⟩ := h
    exact ⟨b, cur, rfl, rfl, hB, (hb b (by simp)).trans hc, hs, h1, fun j a u ha hu => (hr j a u ha hu).move hm hk hv⟩

/-- The objects whose root is told by their name. -/
def fixable : Nat → Obj → Bool
  | i, .box _ _ => Nat.ble 1000000 i
  | i, _ => Nat.ble 2000000 i
theorem nofix {C : Ctx} {i : Nat} {o : Obj} (h : fixable i o = false) : fixable i o = true → C.fix i = none := fun h2 => by rw [h] at h2; cases h2
theorem fixable_lt {i : Nat} {o : Obj} (h : i < 1000000) : fixable i o = false := by
  have h1 : ∀ m, 1000000 ≤ m → Nat.ble m i = false := fun m hm => by
    cases e : Nat.ble m i
    · rfl
    · have := Nat.le_of_ble_eq_true e
      omega
  cases o <;> exact h1 _ (by omega)
structure Hp (C : Ctx) (ψ : Nat → List Nat) (φ : Nat → Value) (os : List (Nat × Obj)) (w : World) : Prop where
  below : Ch C.w0 w C.bor
  objs : ∀ i o, lk i os = some o → ObjAt w 0 (okS C ψ os w) (idsS os) ψ φ o (φ i) (ψ i)
  disj : ∀ i j oi oj k, lk i os = some oi → lk j os = some oj → k ∈ ψ i → k ∈ ψ j → i = j
  own : ∀ i o k, lk i os = some o → k ∈ ψ i → C.own k
  fix : ∀ i v o, C.fix i = some v → lk i os = some o → fixable i o = true → φ i = v

structure SimF (C : Ctx) (ψ : Nat → List Nat) (φ : Nat → Value) (s : AS) (a : Act) (w : World) : Prop where
  defers : a.defers = []
  size : a.tmps.size = C.n
  hp : Hp C ψ φ s.objs w
  env : ∀ t av, lk t s.env = some av → t < C.n ∧ Rep w (okS C ψ s.objs w) (idsS s.objs) ψ φ av (a.tmps.getD t undef)

def Sim (C : Ctx) (s : AS) (a : Act) (w : World) : Prop := ∃ ψ φ, SimF C ψ φ s a w
def Le (C : Ctx) (s s' : AS) : Prop := ∀ a w, Sim C s a w → Sim C s' a w

theorem Hp.lt {C : Ctx} {ψ : Nat → List Nat} {φ : Nat → Value} {os : List (Nat × Obj)} {w : World} (h : Hp C ψ φ os w) {i k : Nat} {o : Obj} (hi : lk i os = some o) (hk : k ∈ ψ i) : C.own k ∧ k < w.heap.size := ⟨h.own i o k hi hk, ((h.objs i o hi).lt k hk).2⟩

/-- The world has grown (new blocks; what was there is as it was). -/
theorem Hp.ext {C : Ctx} {ψ : Nat → List Nat} {φ : Nat → Value} {os : List (Nat × Obj)} {w w1 : World} (h : Hp C ψ φ os w) (hb : Below w.heap.size w w1) :
    Hp C ψ φ os w1 ∧ (∀ k, okS C ψ os w k → okS C ψ os w1 k) ∧ (∀ k, okS C ψ os w k → w1.heap[k]? = w.heap[k]?) ∧ Mv w w1 (idsS os) (idsS os) ψ ψ φ φ := by
  have h1 : ∀ k, okS C ψ os w k → okS C ψ os w1 k := fun k hk => ⟨hk.1, Nat.lt_of_lt_of_le hk.2.1 hb.size, hk.2.2⟩
  have h2 : ∀ k, okS C ψ os w k → w1.heap[k]? = w.heap[k]? := fun k hk => hb.block k hk.2.1
  have h3 : Mv w w1 (idsS os) (idsS os) ψ ψ φ φ := Mv.of_same (fun _ _ h => h) (fun _ _ _ => ⟨rfl, rfl⟩) (fun i p ⟨o, ho, _⟩ k hk => hb.block k (h.lt ho hk).2)
  exact ⟨⟨h.below.trans (.of_below (may := fun _ => False) hb) (fun _ _ h => h.elim), fun i o ho => (h.objs i o ho).move (fun k hk => hb.block k (h.lt ho hk).2) h2 h1 h3, h.disj, h.own, h.fix⟩, h1, h2, h3⟩

theorem SimF.ext {C : Ctx} {ψ : Nat → List Nat} {φ : Nat → Value} {s : AS} {a : Act} {w w1 : World} (h : SimF C ψ φ s a w) (hb : Below w.heap.size w w1) : SimF C ψ φ s a w1 :=
  let ⟨h1, h2, h3, h4⟩ := h.hp.ext hb
  ⟨h.defers, h.size, h1, fun t av ht => ⟨(h.env t av ht).1, (h.env t av ht).2.move h3 h2 h4⟩⟩

theorem put_getD (a : Act) (d t : Nat) (v : Value) (hd : d < a.tmps.size) : (a.put (some d) v).tmps.getD t undef = if d = t then v else a.tmps.getD t undef := by
  simp only [Act.put, Array.getD_eq_getD_getElem?, Array.getElem?_setIfInBounds]
  by_cases h : d = t
  · subst h
    simp [hd]
  · simp [h]

/-- A slot is written. -/
theorem SimF.put {C : Ctx} {ψ : Nat → List Nat} {φ : Nat → Value} {s : AS} {a : Act} {w : World} (h : SimF C ψ φ s a w) (d : Nat) (av : AV) (v : Value) (hd : d < C.n) (hr : Rep w (okS C ψ s.objs w) (idsS s.objs) ψ φ av v) :
    SimF C ψ φ ⟨(d, av) :: s.env, s.objs⟩ (a.put (some d) v) w := by
  refine ⟨h.defers, by simp [Act.put, h.size], h.hp, fun t x hx => ?_⟩
  rw [lk_cons] at hx
  rw [put_getD _ _ _ _ (by rw [h.size]; exact hd)]
  by_cases e : d = t
  · subst e
    rw [if_pos rfl] at hx ⊢
    obtain rfl := Option.some.inj hx
    exact ⟨hd, hr⟩
  · rw [if_neg e] at hx ⊢
    exact h.env t x hx

/-- A function changed at one place. -/
def ups {α : Type} (f : Nat → α) (i : Nat) (v : α) : Nat → α := fun j => if j = i then v else f j
theorem ups_self {α : Type} (f : Nat → α) (i : Nat) (v : α) : ups f i v i = v := if_pos rfl
theorem ups_ne {α : Type} (f : Nat → α) {i j : Nat} (v : α) (h : j ≠ i) : ups f i v j = f j := if_neg h

/-- A new object: its handle, in the grown world. -/
theorem SimF.new {C : Ctx} {ψ : Nat → List Nat} {φ : Nat → Value} {s : AS} {a : Act} {w w1 : World} (h : SimF C ψ φ s a w) (hb : Below w.heap.size w w1) (i : Nat) (o : Obj) (v : Value) (fp : List Nat) (hi : lk i s.objs = none) (hfx : fixable i o = true → C.fix i = none)
    (hv : ∀ k ∈ fp, w.heap.size ≤ k)
    (ho : ∀ ok ids ψ' φ', (∀ k, okS C ψ s.objs w k → ok k) → Mv w w1 (idsS s.objs) ids ψ ψ' φ φ' → ObjAt w1 0 ok ids ψ' φ' o v fp) :
    SimF C (ups ψ i fp) (ups φ i v) ⟨s.env, (i, o) :: s.objs⟩ a w1 := by
  obtain ⟨p1, p2, p3, p4⟩ := h.hp.ext hb
  have hne : ∀ j oj, lk j s.objs = some oj → j ≠ i := by
    rintro j oj hj rfl
    rw [hi] at hj
    cases hj
  have hlk : ∀ j oj, lk j s.objs = some oj → lk j ((i, o) :: s.objs) = some oj := fun j oj hj => by
    rw [lk_cons, if_neg (Ne.symm (hne j oj hj))]; exact hj
  have hmv : Mv w w1 (idsS s.objs) (idsS ((i, o) :: s.objs)) ψ (ups ψ i fp) φ (ups φ i v) :=
    Mv.of_same (fun j p ⟨oj, hj, hp⟩ => ⟨oj, hlk j oj hj, hp⟩) (fun j p ⟨oj, hj, _⟩ => ⟨ups_ne _ _ (hne j oj hj), ups_ne _ _ (hne j oj hj)⟩) (fun j p ⟨oj, hj, _⟩ k hk => hb.block k (h.hp.lt hj hk).2)
  have hok : ∀ k, okS C ψ s.objs w k → okS C (ups ψ i fp) ((i, o) :: s.objs) w1 k := by
    rintro k ⟨k1, k2, k3⟩
    refine ⟨k1, Nat.lt_of_lt_of_le k2 hb.size, fun j oj hj hk => ?_⟩
    rw [lk_cons] at hj
    by_cases e : j = i
    · subst e
      rw [ups_self] at hk
      have := hv k hk
      omega
    · rw [if_neg (Ne.symm e)] at hj
      rw [ups_ne _ _ e] at hk
      exact k3 j oj hj hk
  refine ⟨h.defers, h.size, ⟨p1.below, fun j o' hj => ?_, ?_, ?_, ?_⟩, fun t av ht => ⟨(h.env t av ht).1, (h.env t av ht).2.move p3 hok hmv⟩⟩
  · rw [lk_cons] at hj
    by_cases e : i = j
    · subst e
      rw [if_pos rfl] at hj
      obtain rfl := Option.some.inj hj
      rw [ups_self, ups_self]
      exact ho _ _ _ _ hok hmv
    · rw [if_neg e] at hj
      rw [ups_ne _ _ (Ne.symm e), ups_ne _ _ (Ne.symm e)]
      exact (h.hp.objs j o' hj).move (fun k hk => hb.block k (h.hp.lt hj hk).2) p3 hok hmv
  · intro j j' oj oj' k hj hj' hk hk'
    rw [lk_cons] at hj hj'
    by_cases e : j = i
    · by_cases e' : j' = i
      · rw [e, e']
      · rw [if_neg (Ne.symm e')] at hj'
        rw [e, ups_self] at hk
        rw [ups_ne _ _ e'] at hk'
        have h1 := hv k hk
        have h2 := (h.hp.lt hj' hk').2
        omega
    · rw [if_neg (Ne.symm e)] at hj
      rw [ups_ne _ _ e] at hk
      by_cases e' : j' = i
      · rw [e', ups_self] at hk'
        have h1 := hv k hk'
        have h2 := (h.hp.lt hj hk).2
        omega
      · rw [if_neg (Ne.symm e')] at hj'
        rw [ups_ne _ _ e'] at hk'
        exact h.hp.disj j j' oj oj' k hj hj' hk hk'
  · intro j oj k hj hk
    rw [lk_cons] at hj
    by_cases e : j = i
    · rw [e, ups_self] at hk
      exact .inl (Nat.le_trans h.hp.below.size (hv k hk))
    · rw [if_neg (Ne.symm e)] at hj
      rw [ups_ne _ _ e] at hk
      exact h.hp.own j oj k hj hk
  · intro j u oj hu hj hf
    rw [lk_cons] at hj
    by_cases e : j = i
    · subst e
      rw [if_pos rfl] at hj
      obtain rfl := Option.some.inj hj
      rw [hfx hf] at hu
      cases hu
    · rw [if_neg (Ne.symm e)] at hj
      rw [ups_ne _ _ e]
      exact h.hp.fix j u oj hu hj hf
end Go.Proofs.YtmiijpobhajfmaaGreat.J
namespace Go.Proofs.YtmiijpobhajfmaaGreat.J
open Go Go.RowKit
set_option linter.unusedVariables false
set_option linter.unusedSimpArgs false

/-! ### 4. Judgements -/
structure Kt where
  nrm : AS → Prop
  ret : AS → Prop
  ex : Nat → AS → Prop

def lift (C : Ctx) (k : Kt) : Exit → Act → World → Prop
  | .normal, a, w => ∃ s, k.nrm s ∧ Sim C s a w
  | .ret, a, w => ∃ s, k.ret s ∧ Sim C s a w
  | .exit i, a, w => ∃ s, k.ex i s ∧ Sim C s a w
  | _, _, _ => False

def J (P : Program) (C : Ctx) (k : Kt) (c : Code) (s : AS) : Prop := ∀ a w, Sim C s a w → c.wp P (lift C k) a w
def JL (P : Program) (C : Ctx) (ops : Array Oper) (k : Kt) (l : List Oper) (s : AS) : Prop := ∀ a w, Sim C s a w → wpList P ops (lift C k) l a w
def JQ (P : Program) (C : Ctx) (ops : Array Oper) (k : Kt) (l : List Oper) (s : AS) : Prop :=
  ∀ ψ φ a w w0, Below w0.heap.size w0 w → SimF C ψ φ s a w0 → wpQuiet P ops (fun w1 => Below w0.heap.size w0 w1) (fun a' => ∀ w1, Below w0.heap.size w0 w1 → lift C k .normal a' w1) l a

section
variable {P : Program} {C : Ctx} {k : Kt} {s s' : AS}

theorem J_le {c : Code} (h : Le C s s') (j : J P C k c s') : J P C k c s := fun a w hs => j a w (h a w hs)
theorem JL_le {ops : Array Oper} {l : List Oper} (h : Le C s s') (j : JL P C ops k l s') : JL P C ops k l s := fun a w hs => j a w (h a w hs)
theorem Le.refl (C : Ctx) (s : AS) : Le C s s := fun _ _ h => h
theorem Le.trans {s'' : AS} (h : Le C s s') (h' : Le C s' s'') : Le C s s'' := fun a w x => h' a w (h a w x)

theorem lift_mono {k' : Kt} (h1 : ∀ s, k.nrm s → k'.nrm s) (h2 : ∀ s, k.ret s → k'.ret s) (h3 : ∀ i s, k.ex i s → k'.ex i s) : ∀ e a w, lift C k e a w → lift C k' e a w := by
  intro e a w h
  cases e with
  | normal => obtain ⟨s, hs, hr⟩ := h; exact ⟨s, h1 s hs, hr⟩
  | ret => obtain ⟨s, hs, hr⟩ := h; exact ⟨s, h2 s hs, hr⟩
  | exit i => obtain ⟨s, hs, hr⟩ := h; exact ⟨s, h3 i s hs, hr⟩
  | goto l => exact h
  | panic c => exact h
  | outgrown => exact h

theorem J_seq {x y : Code} (h : J P C ⟨fun s => J P C k y s, k.ret, k.ex⟩ x s) : J P C k (.seq x y) s := fun a w hs =>
  wp_seq (wp_mono (h a w hs) (fun e a w q => by
    cases e with
    | normal => obtain ⟨s1, h1, hr⟩ := q; exact h1 a w hr
    | ret => exact q
    | exit i => exact q
    | goto l => exact q
    | panic c => exact q
    | outgrown => exact q))
theorem J_skip (h : k.nrm s) : J P C k .skip s := fun _ _ hs => wp_skip ⟨s, h, hs⟩
theorem J_ret (h : k.ret s) : J P C k .ret s := fun _ _ hs => wp_ret ⟨s, h, hs⟩
theorem J_exit {i : Nat} (h : k.ex i s) : J P C k (.exit i) s := fun _ _ hs => wp_exit ⟨s, h, hs⟩
theorem J_block {i : Nat} {c : Code} (h : J P C ⟨k.nrm, k.ret, fun j s => bif Nat.beq j i then k.nrm s else k.ex j s⟩ c s) : J P C k (.block i c) s := fun a w hs =>
  wp_block (wp_mono (h a w hs) (fun e a w q => by
    cases e with
    | normal => exact q
    | ret => exact q
    | exit j =>
      obtain ⟨s1, h1, hr⟩ := q
      simp only [Exit.inBlock]
      dsimp only at h1
      by_cases e : j = i
      · subst e
        rw [Nat.beq_refl, cond_true] at h1
        rw [if_pos rfl]
        exact ⟨s1, h1, hr⟩
      · have : Nat.beq j i = false := by
          cases e2 : Nat.beq j i
          · rfl
          · exact absurd (Nat.eq_of_beq_eq_true e2) e
        rw [this, cond_false] at h1
        rw [if_neg e]
        exact ⟨s1, h1, hr⟩
    | goto l => exact q
    | panic c => exact q
    | outgrown => exact q))
theorem J_loop {X : Type} {c : Code} (S : X → AS) (R : X → Prop) (m : X → Nat) (x0 : X) (h0 : R x0) (hs : Le C s (S x0))
    (hb : ∀ x, R x → J P C ⟨fun s' => ∃ x', R x' ∧ m x' < m x ∧ Le C s' (S x'), k.ret, k.ex⟩ c (S x)) : J P C k (.loop c) s := by
  intro a w hsim
  have key : ∀ n x, m x = n → R x → ∀ a w, Sim C (S x) a w → ∀ (b : Frame) (kk : List Item) (cs : List Frame),
      ∃ e a' w', lift C k e a' w' ∧ Arrives P (lone (b.at a (.code c :: .inLoop c :: kk)) cs w) b kk cs e a' w' := by
    intro n
    induction n using Nat.strongRecOn with
    | _ n ih =>
      intro x hn hR a w hx b kk cs
      obtain ⟨e, a₁, w₁, hq, harr⟩ := hb x hR a w hx b (.inLoop c :: kk) cs
      cases e with
      | normal =>
        obtain ⟨s1, ⟨x', h1, h2, h3⟩, hr⟩ := hq
        obtain ⟨e₂, a₂, w₂, hq₂, harr₂⟩ := ih (m x') (hn ▸ h2) x' rfl h1 a₁ w₁ (h3 _ _ hr) b kk cs
        exact ⟨e₂, a₂, w₂, hq₂, .of_steps (Steps.trans harr (.one step_inLoop)) harr₂⟩
      | exit id => exact ⟨.exit id, a₁, w₁, hq, .pass (x := .inLoop c) rfl (fun _ _ => .inl (by simp)) harr⟩
      | goto l => exact hq.elim
      | ret => exact ⟨.ret, a₁, w₁, hq, .pass (x := .inLoop c) rfl (fun _ _ => .inl (by simp)) harr⟩
      | panic ch => exact hq.elim
      | outgrown => exact hq.elim
  intro b kk cs
  obtain ⟨e, a', w', hq, harr⟩ := key _ x0 rfl h0 a w (hs a w hsim) b kk cs
  exact ⟨e, a', w', hq, .of_steps (.one step_loop) harr⟩
theorem J_region {id : Nat} {l : List Oper} (h : JL P C l.toArray k l s) : J P C k (.region id l.toArray false) s := fun a w hs => wp_region_lit (h a w hs)
theorem J_draw {id : Nat} {l : List Oper} (hm : P.follows .mixedOrders = true) (hB : Region.lexB .any l.toArray = true) (h : JQ P C l.toArray k l s) : J P C k (.region id l.toArray true) s := fun a w hs => by
  obtain ⟨ψ, φ, hF⟩ := hs
  have hd : Below w.heap.size w { w with drawn := w.drawn + 1 } := ⟨rfl, rfl, rfl, Nat.le_refl _, fun _ _ => rfl⟩
  exact wp_region_quiet (C := fun w1 => Below w.heap.size w w1) hm hB hd (by simpa using h ψ φ a w w (Below.refl _ _) hF)

/-! ### 5. Operands and tests -/
def ev (s : AS) : Operand → Option AV
  | .tmp t => lk t s.env
  | .const v => some (.val v)
  | .func f => some (.clo f 0 [])
  | .global g => some (.val (.pointer (some ⟨g, 0, none⟩)))
theorem SimF.ev {ψ : Nat → List Nat} {φ : Nat → Value} {a : Act} {w : World} (h : SimF C ψ φ s a w) {x : Operand} {av : AV} (he : J.ev s x = some av) : Rep w (okS C ψ s.objs w) (idsS s.objs) ψ φ av (a.eval x) := by
  cases x with
  | tmp t => exact (h.env t av he).2
  | const v => obtain rfl := Option.some.inj he; exact .ro (.val v)
  | func f => obtain rfl := Option.some.inj he; exact .ro (.clo f 0 [] #[] #[] rfl rfl (fun j a u h => by simp at h))
  | global g => obtain rfl := Option.some.inj he; exact .ro (.val _)
theorem SimF.ev_val {ψ : Nat → List Nat} {φ : Nat → Value} {a : Act} {w : World} (h : SimF C ψ φ s a w) {x : Operand} {v : Value} (he : J.ev s x = some (.val v)) : a.eval x = v := by
  have := h.ev he
  cases this with
  | ro h => cases h; rfl

theorem J_cond {c : Operand} {x y : Code} {b : Bool} (hc : ev s c = some (.val (.bool b))) (h1 : b = true → J P C k x s) (h2 : b = false → J P C k y s) : J P C k (.cond c x y) s := fun a w hs => by
  obtain ⟨ψ, φ, hF⟩ := hs
  exact wp_cond_split (hF.ev_val hc) (fun e => h1 e a w ⟨ψ, φ, hF⟩) (fun e => h2 e a w ⟨ψ, φ, hF⟩)
theorem J_cond_t {c : Operand} {x y : Code} (hc : ev s c = some (.val (.bool true))) (h1 : J P C k x s) : J P C k (.cond c x y) s := J_cond hc (fun _ => h1) (fun e => by cases e)
theorem J_cond_f {c : Operand} {x y : Code} (hc : ev s c = some (.val (.bool false))) (h1 : J P C k y s) : J P C k (.cond c x y) s := J_cond hc (fun e => by cases e) (fun _ => h1)
theorem J_cond_p {c : Operand} {x y : Code} {p : Prop} [Decidable p] (hc : ev s c = some (.val (.bool (decide p)))) (h1 : p → J P C k x s) (h2 : ¬ p → J P C k y s) : J P C k (.cond c x y) s :=
  J_cond hc (fun e => h1 (of_decide_eq_true e)) (fun e => h2 (of_decide_eq_false e))

/-! ### 6. Lists of operations -/
theorem JL_nil {ops : Array Oper} (h : k.nrm s) : JL P C ops k [] s := fun _ _ hs => wpList_nil ⟨s, h, hs⟩
theorem JQ_nil {ops : Array Oper} (h : k.nrm s) : JQ P C ops k [] s := fun ψ φ _ _ _ _ hF => wpQuiet_nil (fun _ hb => ⟨s, h, ψ, φ, hF.ext hb⟩)

theorem upon_mono {o : Oper} {a : Act} {N N' : Act → World → Prop} {Q : Exit → Act → World → Prop} {w : World} (h : o.wp P a w N (fun _ _ _ => False)) (hN : ∀ a w, N a w → N' a w) : o.wp P a w N' Q := by
  unfold Oper.wp at *
  generalize (execOp a.eval o).run P w = r at *
  cases r with
  | ok n w' =>
    cases n with
    | value v => exact hN _ _ h
    | skip => exact hN _ _ h
    | defer d => exact hN _ _ h
    | enter f args =>
      refine Calls.mono h (fun e w'' he => ?_)
      cases e with
      | returned v => exact hN _ _ he
      | panicked c => exact he.elim
      | outgrown => obtain ⟨_, _, hf⟩ := he; exact hf.elim
    | row r args => exact Rows.mono h (fun v w'' he => hN _ _ he)
    | _ => exact h.elim
  | halt x w' =>
    cases x with
    | panic v => exact h.elim
    | _ => exact h.elim

def OpOK (P : Program) (C : Ctx) (o : Oper) (s s' : AS) : Prop := ∀ a w, Sim C s a w → o.wp P a w (Sim C s') (fun _ _ _ => False)
def inD (ψ : Nat → List Nat) (os : List (Nat × Obj)) (D : List Nat) (k : Nat) : Prop := ∃ d o, d ∈ D ∧ lk d os = some o ∧ k ∈ ψ d
/-- Whose blocks are whose, behind an operation that changes the objects D. -/
def Fp (ψ ψ' : Nat → List Nat) (os os' : List (Nat × Obj)) (w : World) (D : List Nat) : Prop := ∀ i o', lk i os' = some o' → ∀ k ∈ ψ' i, w.heap.size ≤ k ∨ (∃ o, lk i os = some o ∧ k ∈ ψ i) ∨ inD ψ os D k
/-- Worlds that agree on what is read: nothing, or what may be read and the objects rd. -/
def Ag (C : Ctx) (ψ : Nat → List Nat) (os : List (Nat × Obj)) (rd : Option (List Nat)) (w w1 : World) : Prop :=
  ∀ l, rd = some l → ∀ k, k < w.heap.size → (okS C ψ os w k ∨ inD ψ os l k) → w1.heap[k]? = w.heap[k]?
theorem Ag.block {ψ : Nat → List Nat} {os : List (Nat × Obj)} {l : List Nat} {w w1 : World} (h : Ag C ψ os (some l) w w1) (k : Nat) (hk : k < w.heap.size) (ho : okS C ψ os w k ∨ inD ψ os l k) : w1.heap[k]? = w.heap[k]? := h l rfl k hk ho
theorem Ag.of_below {ψ : Nat → List Nat} {os : List (Nat × Obj)} {rd : Option (List Nat)} {w w1 : World} (h : Below w.heap.size w w1) : Ag C ψ os rd w w1 := fun _ _ k hk _ => h.block k hk
/-- A value that an operation yields, and what it reads for it. -/
def PureR (P : Program) (C : Ctx) (rd : Option (List Nat)) (o : Oper) (s : AS) (av : AV) : Prop :=
  ∀ ψ φ a w, SimF C ψ φ s a w → ∃ v, (∀ w1, Ag C ψ s.objs rd w w1 → (execOp a.eval o).run P w1 = .ok (.value v) w1) ∧ Rep w (okS C ψ s.objs w) (idsS s.objs) ψ φ av v
abbrev PureOp (P : Program) (C : Ctx) (o : Oper) (s : AS) (av : AV) : Prop := PureR P C none o s av
/-- What an operation does that changes the objects D. -/
def OpD (P : Program) (C : Ctx) (D : List Nat) (o : Oper) (s s' : AS) : Prop := ∀ ψ φ a w, SimF C ψ φ s a w → o.wp P a w (fun a' w' => ∃ ψ' φ', SimF C ψ' φ' s' a' w' ∧ Ch w w' (inD ψ s.objs D) ∧ Fp ψ ψ' s.objs s'.objs w D) (fun _ _ _ => False)
theorem OpD.ok {D : List Nat} {o : Oper} (h : OpD P C D o s s') : OpOK P C o s s' := fun a w ⟨ψ, φ, hF⟩ => upon_mono (h ψ φ a w hF) (fun _ _ ⟨ψ', φ', h1, _⟩ => ⟨ψ', φ', h1⟩)

theorem OpD.of_pure {rd : Option (List Nat)} {o : Oper} {av : AV} {d : Nat} (hd : o.dst = some d) (hn : d < C.n) (h : PureR P C rd o s av) : OpD P C [] o s ⟨(d, av) :: s.env, s.objs⟩ := by
  intro ψ φ a w hF
  obtain ⟨v, hv, hr⟩ := h ψ φ a w hF
  unfold Oper.wp
  rw [hv w (.of_below (Below.refl _ _)), Oper.upon_value, hd]
  exact ⟨ψ, φ, hF.put d av v hn hr, .of_below (Below.refl _ _), fun i o' hi k hk => .inr (.inl ⟨o', hi, hk⟩)⟩

theorem wanted_none {o : Oper} (h : o.guard = none) (y : Nat → Option Bool) : Region.wanted o y = true := by simp [Region.wanted, h]

theorem JL_op {ops : Array Oper} {o : Oper} {rest : List Oper} (hg : o.guard = none) (h : OpOK P C o s s') (hr : JL P C ops k rest s') : JL P C ops k (o :: rest) s := fun a w hs => by
  unfold wpList
  rw [if_pos (wanted_none hg _)]
  exact .inl (upon_mono (h a w hs) (fun a w hs => hr a w hs))
theorem yielded_of {ops : Array Oper} {ψ : Nat → List Nat} {φ : Nat → Value} {a : Act} {w : World} (h : SimF C ψ φ s a w) {j t : Nat} {b : Bool} (ho : (ops[j]?).bind (·.dst) = some t) (hb : lk t s.env = some (.val (.bool b))) : yielded ops a.tmps j = some b := by
  obtain ⟨h1, h2⟩ := h.env t _ hb
  have h3 : a.tmps.getD t undef = .bool b := h.ev_val (x := .tmp t) hb
  unfold yielded
  rw [ho]
  have hlt : t < a.tmps.size := by rw [h.size]; exact h1
  simp only [Option.bind_some, Array.getElem?_eq_getElem hlt]
  rw [Array.getD_eq_getD_getElem?, Array.getElem?_eq_getElem hlt, Option.getD_some] at h3
  rw [h3]
theorem JL_op_g {ops : Array Oper} {o : Oper} {rest : List Oper} {j t : Nat} {b : Bool} (hg : o.guard = some (j, b)) (ho : (ops[j]?).bind (·.dst) = some t) (hb : lk t s.env = some (.val (.bool b)))
    (h : OpOK P C o s s') (hr : JL P C ops k rest s') : JL P C ops k (o :: rest) s := fun a w hs => by
  obtain ⟨ψ, φ, hF⟩ := hs
  have hw : Region.wanted o (yielded ops a.tmps) = true := by
    simp only [Region.wanted, hg, yielded_of hF ho hb]
    cases b <;> rfl
  unfold wpList
  rw [if_pos hw]
  exact .inl (upon_mono (h a w ⟨ψ, φ, hF⟩) (fun a w hs => hr a w hs))
/-- An operation that its guard passes over: its slot is lost. -/
theorem JL_skip {ops : Array Oper} {o : Oper} {rest : List Oper} {j t d : Nat} {b b' : Bool} (hg : o.guard = some (j, b)) (ho : (ops[j]?).bind (·.dst) = some t) (hb : lk t s.env = some (.val (.bool b'))) (hne : (b' == b) = false)
    (hd : o.dst = some d) (hn : d < C.n) (hr : JL P C ops k rest ⟨(d, .junk) :: s.env, s.objs⟩) : JL P C ops k (o :: rest) s := fun a w hs => by
  obtain ⟨ψ, φ, hF⟩ := hs
  have hw : Region.wanted o (yielded ops a.tmps) = false := by
    simp only [Region.wanted, hg, yielded_of hF ho hb]
    cases b <;> cases b' <;> first | rfl | cases hne
  unfold wpList
  rw [if_neg (by rw [hw]; exact Bool.false_ne_true), hd]
  exact hr _ _ ⟨ψ, φ, hF.put d .junk undef hn (.ro (.junk _))⟩
theorem JQ_op {rd : Option (List Nat)} {ops : Array Oper} {o : Oper} {rest : List Oper} {av : AV} {d : Nat} (hg : o.guard = none) (hd : o.dst = some d) (hn : d < C.n) (h : PureR P C rd o s av) (hr : JQ P C ops k rest ⟨(d, av) :: s.env, s.objs⟩) : JQ P C ops k (o :: rest) s := fun ψ φ a w w0 hw hF => by
  obtain ⟨v, hv, hrep⟩ := h ψ φ a w0 hF
  refine wpQuiet_step (fun K hK => ?_)
  rw [if_pos (wanted_none hg _)]
  refine ⟨v, fun w1 h1 => ?_, hK _ ?_⟩
  · unfold Oper.quietAt
    rw [hv w1 (.of_below h1)]
    exact ⟨rfl, rfl⟩
  · rw [hd]
    exact hr ψ φ _ w w0 hw (hF.put d av v hn hrep)
theorem JQ_op_g {rd : Option (List Nat)} {ops : Array Oper} {o : Oper} {rest : List Oper} {av : AV} {d j t : Nat} {b : Bool} (hg : o.guard = some (j, b)) (ho : (ops[j]?).bind (·.dst) = some t) (hb : lk t s.env = some (.val (.bool b)))
    (hd : o.dst = some d) (hn : d < C.n) (h : PureR P C rd o s av) (hr : JQ P C ops k rest ⟨(d, av) :: s.env, s.objs⟩) : JQ P C ops k (o :: rest) s := fun ψ φ a w w0 hw hF => by
  obtain ⟨v, hv, hrep⟩ := h ψ φ a w0 hF
  have hwt : Region.wanted o (yielded ops a.tmps) = true := by
    simp only [Region.wanted, hg, yielded_of hF ho hb]
    cases b <;> rfl
  refine wpQuiet_step (fun K hK => ?_)
  rw [if_pos hwt]
  refine ⟨v, fun w1 h1 => ?_, hK _ ?_⟩
  · unfold Oper.quietAt
    rw [hv w1 (.of_below h1)]
    exact ⟨rfl, rfl⟩
  · rw [hd]
    exact hr ψ φ _ w w0 hw (hF.put d av v hn hrep)
theorem JQ_skip {ops : Array Oper} {o : Oper} {rest : List Oper} {j t d : Nat} {b b' : Bool} (hg : o.guard = some (j, b)) (ho : (ops[j]?).bind (·.dst) = some t) (hb : lk t s.env = some (.val (.bool b'))) (hne : (b' == b) = false)
    (hd : o.dst = some d) (hn : d < C.n) (hr : JQ P C ops k rest ⟨(d, .junk) :: s.env, s.objs⟩) : JQ P C ops k (o :: rest) s := fun ψ φ a w w0 hw hF => by
  have hwt : Region.wanted o (yielded ops a.tmps) = false := by
    simp only [Region.wanted, hg, yielded_of hF ho hb]
    cases b <;> cases b' <;> first | rfl | cases hne
  refine wpQuiet_step (fun K hK => ?_)
  rw [if_neg (by rw [hwt]; exact Bool.false_ne_true), hd]
  exact hK _ (hr ψ φ _ w w0 hw (hF.put d .junk undef hn (.ro (.junk _))))
/-- A test that stands in a slot is decided. -/
theorem JL_split {ops : Array Oper} {l : List Oper} (t : Nat) {p : Prop} [Decidable p] (hb : lk t s.env = some (.val (.bool (decide p))))
    (h1 : p → JL P C ops k l ⟨(t, .val (.bool true)) :: s.env, s.objs⟩) (h2 : ¬ p → JL P C ops k l ⟨(t, .val (.bool false)) :: s.env, s.objs⟩) : JL P C ops k l s := fun a w hs => by
  obtain ⟨ψ, φ, hF⟩ := hs
  have key : ∀ b, b = decide p → SimF C ψ φ ⟨(t, .val (.bool b)) :: s.env, s.objs⟩ a w := by
    intro b e
    refine ⟨hF.defers, hF.size, hF.hp, fun t' av h => ?_⟩
    rw [lk_cons] at h
    by_cases e' : t = t'
    · subst e'
      rw [if_pos rfl] at h
      obtain rfl := Option.some.inj h
      rw [e]
      exact hF.env t _ hb
    · rw [if_neg e'] at h
      exact hF.env t' av h
  by_cases hp : p
  · exact h1 hp a w ⟨ψ, φ, key true (decide_eq_true hp).symm⟩
  · exact h2 hp a w ⟨ψ, φ, key false (decide_eq_false hp).symm⟩
theorem JQ_split {ops : Array Oper} {l : List Oper} (t : Nat) {p : Prop} [Decidable p] (hb : lk t s.env = some (.val (.bool (decide p))))
    (h1 : p → JQ P C ops k l ⟨(t, .val (.bool true)) :: s.env, s.objs⟩) (h2 : ¬ p → JQ P C ops k l ⟨(t, .val (.bool false)) :: s.env, s.objs⟩) : JQ P C ops k l s := fun ψ φ a w w0 hw hF => by
  have key : ∀ b, b = decide p → SimF C ψ φ ⟨(t, .val (.bool b)) :: s.env, s.objs⟩ a w0 := by
    intro b e
    refine ⟨hF.defers, hF.size, hF.hp, fun t' av h => ?_⟩
    rw [lk_cons] at h
    by_cases e' : t = t'
    · subst e'
      rw [if_pos rfl] at h
      obtain rfl := Option.some.inj h
      rw [e]
      exact hF.env t _ hb
    · rw [if_neg e'] at h
      exact hF.env t' av h
  by_cases hp : p
  · exact h1 hp ψ φ a w w0 hw (key true (decide_eq_true hp).symm)
  · exact h2 hp ψ φ a w w0 hw (key false (decide_eq_false hp).symm)

/-! ### Guards -/
theorem yielded_val {ops : Array Oper} {ψ : Nat → List Nat} {φ : Nat → Value} {a : Act} {w : World} (h : SimF C ψ φ s a w) {j t : Nat} {v : Value} (ho : (ops[j]?).bind (·.dst) = some t) (hb : lk t s.env = some (.val v)) : yielded ops a.tmps j = match v with | .bool b => some b | _ => none := by
  obtain ⟨h1, h2⟩ := h.env t _ hb
  have h3 : a.tmps.getD t undef = v := h.ev_val (x := .tmp t) hb
  unfold yielded
  rw [ho]
  have hlt : t < a.tmps.size := by rw [h.size]; exact h1
  simp only [Option.bind_some, Array.getElem?_eq_getElem hlt]
  rw [Array.getD_eq_getD_getElem?, Array.getElem?_eq_getElem hlt, Option.getD_some] at h3
  rw [h3]
  cases v <;> rfl
/-- Whether an operation is wanted. -/
def gOK (ops : Array Oper) (E : List (Nat × AV)) (o : Oper) : Option Bool :=
  match o.guard with
  | none => some true
  | some (j, b) => match (ops[j]?).bind (·.dst) with
    | some t => match lk t E with
      | some (.val (.bool b')) => some (b' == b)
      | some (.val (.tuple _)) => some false
      | _ => none
    | none => none
theorem wanted_of {ops : Array Oper} {E : List (Nat × AV)} {O : List (Nat × Obj)} {ψ : Nat → List Nat} {φ : Nat → Value} {a : Act} {w : World} {o : Oper} {b : Bool} (hF : SimF C ψ φ ⟨E, O⟩ a w) (h : gOK ops E o = some b) : Region.wanted o (yielded ops a.tmps) = b := by
  unfold gOK at h
  cases hg : o.guard with
  | none => rw [hg] at h; cases h; exact wanted_none hg _
  | some p =>
    obtain ⟨j, c⟩ := p
    rw [hg] at h
    cases ht : (ops[j]?).bind (·.dst) with
    | none => simp only [ht] at h; cases h
    | some t =>
      simp only [ht] at h
      split at h
      · rename_i b' hb
        cases h
        simp only [Region.wanted, hg, yielded_of hF ht hb]
        cases b' <;> cases c <;> rfl
      · rename_i b' hb
        cases h
        simp only [Region.wanted, hg, yielded_val hF ht hb]
        rfl
      · cases h
theorem JL_w {ops : Array Oper} {E : List (Nat × AV)} {O : List (Nat × Obj)} {o : Oper} {rest : List Oper} {s' : AS} (hg : gOK ops E o = some true) (h : OpOK P C o ⟨E, O⟩ s') (hr : JL P C ops k rest s') : JL P C ops k (o :: rest) ⟨E, O⟩ := fun a w hs => by
  obtain ⟨ψ, φ, hF⟩ := hs
  unfold wpList
  rw [if_pos (wanted_of hF hg)]
  exact .inl (upon_mono (h a w ⟨ψ, φ, hF⟩) (fun a w hs => hr a w hs))
theorem JL_u {ops : Array Oper} {E : List (Nat × AV)} {O : List (Nat × Obj)} {o : Oper} {rest : List Oper} {d : Nat} (hg : gOK ops E o = some false) (hd : o.dst = some d) (hn : d < C.n) (hr : JL P C ops k rest ⟨(d, .val undef) :: E, O⟩) : JL P C ops k (o :: rest) ⟨E, O⟩ := fun a w hs => by
  obtain ⟨ψ, φ, hF⟩ := hs
  unfold wpList
  rw [if_neg (by rw [wanted_of hF hg]; exact Bool.false_ne_true), hd]
  exact hr _ _ ⟨ψ, φ, hF.put d (.val undef) undef hn (.ro (.val _))⟩
theorem JQ_w {rd : Option (List Nat)} {ops : Array Oper} {E : List (Nat × AV)} {O : List (Nat × Obj)} {o : Oper} {rest : List Oper} {av : AV} {d : Nat} (hg : gOK ops E o = some true) (hd : o.dst = some d) (hn : d < C.n) (h : PureR P C rd o ⟨E, O⟩ av) (hr : JQ P C ops k rest ⟨(d, av) :: E, O⟩) : JQ P C ops k (o :: rest) ⟨E, O⟩ := fun ψ φ a w w0 hw hF => by
  obtain ⟨v, hv, hrep⟩ := h ψ φ a w0 hF
  refine wpQuiet_step (fun K hK => ?_)
  rw [if_pos (wanted_of hF hg)]
  refine ⟨v, fun w1 h1 => ?_, hK _ ?_⟩
  · unfold Oper.quietAt
    rw [hv w1 (.of_below h1)]
    exact ⟨rfl, rfl⟩
  · rw [hd]
    exact hr ψ φ _ w w0 hw (hF.put d av v hn hrep)
theorem JQ_u {ops : Array Oper} {E : List (Nat × AV)} {O : List (Nat × Obj)} {o : Oper} {rest : List Oper} {d : Nat} (hg : gOK ops E o = some false) (hd : o.dst = some d) (hn : d < C.n) (hr : JQ P C ops k rest ⟨(d, .val undef) :: E, O⟩) : JQ P C ops k (o :: rest) ⟨E, O⟩ := fun ψ φ a w w0 hw hF => by
  refine wpQuiet_step (fun K hK => ?_)
  rw [if_neg (by rw [wanted_of hF hg]; exact Bool.false_ne_true), hd]
  exact hK _ (hr ψ φ _ w w0 hw (hF.put d (.val undef) undef hn (.ro (.val _))))
end
end Go.Proofs.YtmiijpobhajfmaaGreat.J
namespace Go.Proofs.YtmiijpobhajfmaaGreat.J
open Go Go.RowKit
set_option linter.unusedVariables false
set_option linter.unusedSimpArgs false
section
variable {P : Program} {C : Ctx} {s : AS} {o : Oper}

/-! ### 7. Values handed on; numbers -/
theorem pure_move {x : Operand} {av : AV} (ho : o.op = .move x) (hx : ev s x = some av) : PureOp P C o s av := fun ψ φ a w hF =>
  ⟨a.eval x, fun w1 _ => by simp [execOp, ho], hF.ev hx⟩
theorem pure_assign {x : Operand} {av : AV} (ho : o.op = .assign x) (hx : ev s x = some av) : PureOp P C o s av := fun ψ φ a w hF =>
  ⟨a.eval x, fun w1 _ => by simp [execOp, ho], hF.ev hx⟩
theorem pure_pick_t {c x y : Operand} {av : AV} (ho : o.op = .pick c x y) (hc : ev s c = some (.val (.bool true))) (hx : ev s x = some av) : PureOp P C o s av := fun ψ φ a w hF =>
  ⟨a.eval x, fun w1 _ => by simp [execOp, ho, hF.ev_val hc, asBool], hF.ev hx⟩
theorem pure_pick_f {c x y : Operand} {av : AV} (ho : o.op = .pick c x y) (hc : ev s c = some (.val (.bool false))) (hy : ev s y = some av) : PureOp P C o s av := fun ψ φ a w hF =>
  ⟨a.eval y, fun w1 _ => by simp [execOp, ho, hF.ev_val hc, asBool], hF.ev hy⟩

theorem pure_bin {op : BinOp} {x y : Operand} {xt yt : TypeId} {k : IntKind} {p q : Int} {v : Value} (ho : o.op = .binOp op xt x y yt) (hx : ev s x = some (.val (.int k p))) (hy : ev s y = some (.val (.int k q)))
    (hv : ∀ w, (binOp op xt (.int k p) (.int k q)).run P w = .ok v w) : PureOp P C o s (.val v) := fun ψ φ a w hF =>
  ⟨v, fun w1 _ => by
    have hg : ∀ w, (eqGuard op xt x y (.int k p) (.int k q)).run P w = .ok () w := fun w => by cases op <;> rfl
    simp [execOp, ho, hF.ev_val hx, hF.ev_val hy, hg, hv], .ro (.val v)⟩
theorem wrap_id {n : Int} (h : -9223372036854775808 ≤ n ∧ n ≤ 9223372036854775807) : IntKind.i64.wrap n = n := by
  rw [IntKind.wrap_i64]; omega
theorem pure_add {x y : Operand} {xt yt : TypeId} {p q : Int} (ho : o.op = .binOp .add xt x y yt) (hx : ev s x = some (.val (.int .i64 p))) (hy : ev s y = some (.val (.int .i64 q)))
    (hb : -9223372036854775808 ≤ p + q ∧ p + q ≤ 9223372036854775807) : PureOp P C o s (.val (.int .i64 (p + q))) :=
  pure_bin ho hx hy (fun w => by simp [binOp, Op.intArith, wrap_id hb])
theorem pure_sub {x y : Operand} {xt yt : TypeId} {p q : Int} (ho : o.op = .binOp .sub xt x y yt) (hx : ev s x = some (.val (.int .i64 p))) (hy : ev s y = some (.val (.int .i64 q)))
    (hb : -9223372036854775808 ≤ p - q ∧ p - q ≤ 9223372036854775807) : PureOp P C o s (.val (.int .i64 (p - q))) :=
  pure_bin ho hx hy (fun w => by simp [binOp, Op.intArith, wrap_id hb])
theorem pure_mul {x y : Operand} {xt yt : TypeId} {p q : Int} (ho : o.op = .binOp .mul xt x y yt) (hx : ev s x = some (.val (.int .i64 p))) (hy : ev s y = some (.val (.int .i64 q)))
    (hb : -9223372036854775808 ≤ p * q ∧ p * q ≤ 9223372036854775807) : PureOp P C o s (.val (.int .i64 (p * q))) :=
  pure_bin ho hx hy (fun w => by simp [binOp, Op.intArith, wrap_id hb])
theorem pure_quo {x y : Operand} {xt yt : TypeId} {p q : Int} (ho : o.op = .binOp .quo xt x y yt) (hx : ev s x = some (.val (.int .i64 p))) (hy : ev s y = some (.val (.int .i64 q)))
    (h0 : 0 ≤ p) (h1 : p ≤ 9223372036854775807) (h2 : 0 < q) : PureOp P C o s (.val (.int .i64 (p / q))) :=
  pure_bin ho hx hy (fun w => by
    have e : p.tdiv q = p / q := Int.tdiv_eq_ediv_of_nonneg h0
    have h3 : 0 ≤ p / q := Int.ediv_nonneg h0 (by omega)
    have h4 : p / q ≤ p := Int.ediv_le_self _ h0
    simp [binOp, Op.intDiv, e, wrap_id (n := p / q) (by omega), show ¬ q = 0 by omega])
theorem pure_rem {x y : Operand} {xt yt : TypeId} {p q : Int} (ho : o.op = .binOp .rem xt x y yt) (hx : ev s x = some (.val (.int .i64 p))) (hy : ev s y = some (.val (.int .i64 q)))
    (h0 : 0 ≤ p) (h2 : 0 < q) : PureOp P C o s (.val (.int .i64 (p % q))) :=
  pure_bin ho hx hy (fun w => by
    have e : p.tmod q = p % q := Int.tmod_eq_emod_of_nonneg h0
    simp [binOp, Op.intDiv, e, show ¬ q = 0 by omega])
theorem pure_lss {x y : Operand} {xt yt : TypeId} {k : IntKind} {p q : Int} (ho : o.op = .binOp .lss xt x y yt) (hx : ev s x = some (.val (.int k p))) (hy : ev s y = some (.val (.int k q))) : PureOp P C o s (.val (.bool (decide (p < q)))) :=
  pure_bin ho hx hy (fun w => by simp [binOp, Op.intCmp])
theorem pure_leq {x y : Operand} {xt yt : TypeId} {k : IntKind} {p q : Int} (ho : o.op = .binOp .leq xt x y yt) (hx : ev s x = some (.val (.int k p))) (hy : ev s y = some (.val (.int k q))) : PureOp P C o s (.val (.bool (decide (p ≤ q)))) :=
  pure_bin ho hx hy (fun w => by simp [binOp, Op.intCmp])
theorem pure_gtr {x y : Operand} {xt yt : TypeId} {k : IntKind} {p q : Int} (ho : o.op = .binOp .gtr xt x y yt) (hx : ev s x = some (.val (.int k p))) (hy : ev s y = some (.val (.int k q))) : PureOp P C o s (.val (.bool (decide (q < p)))) :=
  pure_bin ho hx hy (fun w => by simp [binOp, Op.intCmp])
theorem pure_geq {x y : Operand} {xt yt : TypeId} {k : IntKind} {p q : Int} (ho : o.op = .binOp .geq xt x y yt) (hx : ev s x = some (.val (.int k p))) (hy : ev s y = some (.val (.int k q))) : PureOp P C o s (.val (.bool (decide (q ≤ p)))) :=
  pure_bin ho hx hy (fun w => by simp [binOp, Op.intCmp])
theorem pure_eql {x y : Operand} {xt yt : TypeId} {k : IntKind} {p q : Int} (ho : o.op = .binOp .eql xt x y yt) (hx : ev s x = some (.val (.int k p))) (hy : ev s y = some (.val (.int k q))) : PureOp P C o s (.val (.bool (decide (p = q)))) :=
  pure_bin ho hx hy (fun w => by
    have : (p == q) = decide (p = q) := by by_cases h : p = q <;> simp [h]
    simp [binOp, Op.intCmp, this])
theorem pure_neq {x y : Operand} {xt yt : TypeId} {k : IntKind} {p q : Int} (ho : o.op = .binOp .neq xt x y yt) (hx : ev s x = some (.val (.int k p))) (hy : ev s y = some (.val (.int k q))) : PureOp P C o s (.val (.bool (decide (p ≠ q)))) :=
  pure_bin ho hx hy (fun w => by
    have : (p != q) = decide (p ≠ q) := by by_cases h : p = q <;> simp [h]
    simp [binOp, Op.intCmp, this])
theorem pure_not {x : Operand} {xt : TypeId} {p : Prop} [Decidable p] (ho : o.op = .unOp .not xt x) (hx : ev s x = some (.val (.bool (decide p)))) : PureOp P C o s (.val (.bool (decide (¬ p)))) := fun ψ φ a w hF =>
  ⟨_, fun w1 _ => by simp [execOp, ho, hF.ev_val hx, Op.unary], .ro (.val _)⟩
theorem pure_not_b {x : Operand} {xt : TypeId} {b : Bool} (ho : o.op = .unOp .not xt x) (hx : ev s x = some (.val (.bool b))) : PureOp P C o s (.val (.bool (!b))) := fun ψ φ a w hF =>
  ⟨_, fun w1 _ => by simp [execOp, ho, hF.ev_val hx, Op.unary], .ro (.val _)⟩

/-! ### 8. Lengths and places -/
theorem pure_len {x : Operand} {T E sz : Nat} {xs : List (List AV)} (ho : o.op = .call { callee := .builtin .len, args := #[x], argTypes := #[T] }) (hT : P.underlying T = some (.slice E)) (hx : ev s x = some (.sl sz xs)) :
    PureOp P C o s (.val (.int .i64 xs.length)) := fun ψ φ a w hF => by
  have hr := hF.ev hx
  cases hr with
  | ro h =>
    have : ∃ A cap, a.eval x = .slice A xs.length cap := by
      generalize a.eval x = v at h
      cases h with
      | slNil => exact ⟨_, _, rfl⟩
      | sl => exact ⟨_, _, rfl⟩
    obtain ⟨A, cap, e⟩ := this
    exact ⟨_, fun w1 _ => by simp [execOp, ho, resolve, invoke, builtin, Builtin.len_, run_underlying hT, e, goInt], .ro (.val _)⟩
theorem Rep.own_inv {w : World} {ok : Nat → Prop} {ids : Nat → List Nat → Prop} {ψ : Nat → List Nat} {φ : Nat → Value} {i : Nat} {p : List Nat} {v : Value} (h : Rep w ok ids ψ φ (.own i p) v) : At w (ψ i) (φ i) p v ∧ ids i p := by
  cases h with
  | ro h => cases h
  | own _ _ _ h ha => exact ⟨ha, h⟩
theorem SimF.ev_own {ψ : Nat → List Nat} {φ : Nat → Value} {a : Act} {w : World} (h : SimF C ψ φ s a w) {x : Operand} {i : Nat} {p : List Nat} (he : J.ev s x = some (.own i p)) : At w (ψ i) (φ i) p (a.eval x) ∧ idsS s.objs i p := (h.ev he).own_inv
theorem Rep.box_inv {w : World} {ok : Nat → Prop} {ids : Nat → List Nat → Prop} {ψ : Nat → List Nat} {φ : Nat → Value} {i off : Nat} {v : Value} (h : Rep w ok ids ψ φ (.box i off) v) : ∃ b, φ i = .pointer (some ⟨b, 0, none⟩) ∧ v = .pointer (some ⟨b, off, none⟩) ∧ ids i [] := by
  cases h with
  | ro h => cases h
  | box _ _ b h hb => exact ⟨b, hb, rfl, h⟩
theorem Rep.oref_inv {w : World} {ok : Nat → Prop} {ids : Nat → List Nat → Prop} {ψ : Nat → List Nat} {φ : Nat → Value} {i : Nat} {p : List Nat} {sz j c : Nat} {v : Value} (h : Rep w ok ids ψ φ (.oref i p sz j c) v) : ∃ g n cap, At w (ψ i) (φ i) p (.slice (some ⟨g, 0, none⟩) n cap) ∧ v = .pointer (some ⟨g, j * sz + c, none⟩) ∧ ids i p := by
  cases h with
  | ro h => cases h
  | oref _ _ _ _ _ g n cap h ha => exact ⟨g, n, cap, ha, rfl, h⟩
theorem Rep.sl_inv {w : World} {ok : Nat → Prop} {ids : Nat → List Nat → Prop} {ψ : Nat → List Nat} {φ : Nat → Value} {sz : Nat} {xs : List (List AV)} {v : Value} (h : Rep w ok ids ψ φ (.sl sz xs) v) : RO w ok (.sl sz xs) v := by
  cases h with
  | ro h => exact h
theorem Rep.ref_inv {w : World} {ok : Nat → Prop} {ids : Nat → List Nat → Prop} {ψ : Nat → List Nat} {φ : Nat → Value} {cs : List AV} {v : Value} (h : Rep w ok ids ψ φ (.ref cs) v) : RO w ok (.ref cs) v := by
  cases h with
  | ro h => exact h
theorem Rep.agg_inv {w : World} {ok : Nat → Prop} {ids : Nat → List Nat → Prop} {ψ : Nat → List Nat} {φ : Nat → Value} {cs : List AV} {v : Value} (h : Rep w ok ids ψ φ (.agg cs) v) : ∃ vs : Array Value, v = .agg vs ∧ vs.size = cs.length ∧ ∀ (j : Nat) a u, cs[j]? = some a → vs[j]? = some u → Rep w ok ids ψ φ a u := by
  cases h with
  | ro h =>
    cases h with
    | agg _ vs hl h => exact ⟨vs, rfl, hl, fun j a u ha hu => .ro (h j a u ha hu)⟩
  | agg _ vs hl h => exact ⟨vs, rfl, hl, h⟩
theorem Rep.tup_inv {w : World} {ok : Nat → Prop} {ids : Nat → List Nat → Prop} {ψ : Nat → List Nat} {φ : Nat → Value} {cs : List AV} {v : Value} (h : Rep w ok ids ψ φ (.tup cs) v) : ∃ vs : Array Value, v = .tuple vs ∧ vs.size = cs.length ∧ ∀ (j : Nat) a u, cs[j]? = some a → vs[j]? = some u → Rep w ok ids ψ φ a u := by
  cases h with
  | ro h =>
    cases h with
    | tup _ vs hl h => exact ⟨vs, rfl, hl, fun j a u ha hu => .ro (h j a u ha hu)⟩
  | tup _ vs hl h => exact ⟨vs, rfl, hl, h⟩
theorem At.same {w : World} {S : List Nat} : ∀ {p : List Nat} {v u u' : Value}, At w S v p u → At w S v p u' → u = u'
  | [], _, _, _, h, h' => h.trans h'.symm
  | _ :: _, _, _, _, ⟨g, n, cap, y, h1, h2, h3, h4⟩, ⟨g', n', cap', y', h1', h2', h3', h4'⟩ => by
    subst h1
    simp only [Value.slice.injEq, Option.some.injEq, Addr.mk.injEq, and_true, true_and] at h1'
    obtain ⟨rfl, _, _⟩ := h1'
    rw [h3] at h3'
    obtain rfl := Option.some.inj h3'
    exact At.same h4 h4'
theorem At.sub {w : World} {S S' : List Nat} (hs : ∀ k ∈ S, k ∈ S') : ∀ {p : List Nat} {v u : Value}, At w S v p u → At w S' v p u
  | [], _, _, h => h
  | _ :: _, _, _, ⟨g, n, cap, y, h1, h2, h3, h4⟩ => ⟨g, n, cap, y, h1, hs g h2, h3, At.sub hs h4⟩
theorem At.snoc {w : World} {S : List Nat} {g j n cap : Nat} {y : Value} (hg : g ∈ S) (hc : w.cell? ⟨g, j, none⟩ = some y) : ∀ {p : List Nat} {v : Value}, At w S v p (.slice (some ⟨g, 0, none⟩) n cap) → At w S v (p ++ [j]) y
  | [], v, h => ⟨g, n, cap, y, h.symm, hg, hc, rfl⟩
  | _ :: _, _, ⟨g', n', cap', y', h1, h2, h3, h4⟩ => ⟨g', n', cap', y', h1, h2, h3, At.snoc hg hc h4⟩
/-- A row's cell. -/
theorem owns_cell {w : World} {B : Nat} {e : TypeId} {size n g m cap : Nat} {vs : List Value} (h : w.ownsRow B e size (.slice (some ⟨g, 0, none⟩) m cap) n vs) (k : Nat) (u : Value) (hu : vs[k]? = some u) : w.cell? ⟨g, k, none⟩ = some u := by
  have := h.cells (g := g) rfl k u hu
  rwa [Addr.add_lit, Nat.zero_add] at this
/-- A subtree in memory. -/
theorem TreeAt.get {w : World} {B : Nat} {ok : Nat → Prop} : ∀ {p : List Nat} {t t' : Tr} {v : Value} {fp : List Nat}, TreeAt w B ok t v fp → t.get p = some t' → ∃ v' fp', At w fp v p v' ∧ TreeAt w B ok t' v' fp' ∧ ∀ k ∈ fp', k ∈ fp
  | [], t, t', v, fp, h, hg => by
    simp only [Tr.get, Option.some.injEq] at hg
    subst hg
    exact ⟨v, fp, rfl, h, fun _ h => h⟩
  | j :: p, t, t', v, fp, h, hg => by
    cases h with
    | leaf => simp [Tr.get] at hg
    | rv => simp [Tr.get] at hg
    | node e ts _ vs fps ho hl h hnd =>
      simp only [Tr.get] at hg
      cases hj : ts[j]? with
      | none => rw [hj] at hg; cases hg
      | some t1 =>
        rw [hj] at hg
        have hjl : j < ts.length := (List.getElem?_eq_some_iff.1 hj).1
        have hvl : vs.length = ts.length := by rw [ho.1, Nat.mul_one]
        have hv1 : vs[j]? = some vs[j] := List.getElem?_eq_getElem (by omega)
        have hf1 : fps[j]? = some fps[j] := List.getElem?_eq_getElem (by omega)
        obtain ⟨v', fp', h1, h2, h3⟩ := TreeAt.get (h j t1 _ _ hj hv1 hf1) hg
        have hsub : ∀ k ∈ fps[j], k ∈ (blk v).toList ++ fps.flatten := fun k hk => List.mem_append_right _ (get_flatten hf1 hk)
        refine ⟨v', fp', ?_, h2, fun k hk => hsub k (h3 k hk)⟩
        rcases ho.2 with ⟨_, h0⟩ | ⟨g, cap, cur, rfl, _⟩
        · omega
        · exact ⟨g, _, cap, _, rfl, List.mem_append_left _ (by simp [blk]), owns_cell ho j _ hv1, h1.sub hsub⟩
def Tr.len : Tr → Nat
  | .leaf _ _ xs => xs.length
  | .node _ ts => ts.length
  | .rv _ xs => xs.length
def Tr.row : Tr → Bool
  | .rv _ _ => false
  | _ => true
theorem TreeAt.len_slice {w : World} {B : Nat} {ok : Nat → Prop} {t : Tr} {v : Value} {fp : List Nat} (h : TreeAt w B ok t v fp) : ∃ A cap, v = .slice A t.len cap := by
  cases h with
  | leaf e sz xs v vs ho hf => rcases ho.2 with ⟨h, h0⟩ | ⟨_, _, _, h, _⟩
                               · exact ⟨none, 0, by rw [h, Tr.len, h0]⟩
                               · exact ⟨_, _, h⟩
  | node e ts v vs fps ho hl h hnd => rcases ho.2 with ⟨h, h0⟩ | ⟨_, _, _, h, _⟩
                                      · exact ⟨none, 0, by rw [h, Tr.len, h0]⟩
                                      · exact ⟨_, _, h⟩
  | rv sz xs v hr => cases hr with
                     | slNil => exact ⟨none, 0, rfl⟩
                     | sl => exact ⟨_, _, rfl⟩
theorem SimF.tree {ψ : Nat → List Nat} {φ : Nat → Value} {a : Act} {w : World} (hF : SimF C ψ φ s a w) {x : Operand} {i : Nat} {p : List Nat} {t t' : Tr} (hx : J.ev s x = some (.own i p)) (hi : lk i s.objs = some (.tree t)) (hp : t.get p = some t') :
    ∃ fp, At w (ψ i) (φ i) p (a.eval x) ∧ TreeAt w 0 (okS C ψ s.objs w) t' (a.eval x) fp ∧ ∀ k ∈ fp, k ∈ ψ i := by
  obtain ⟨h1, h2⟩ := hF.ev_own hx
  obtain ⟨v', fp', h3, h4, h5⟩ := TreeAt.get (hF.hp.objs i _ hi) hp
  have e := h1.same h3
  exact ⟨fp', h1, by rw [e]; exact h4, h5⟩
theorem pure_len_own {x : Operand} {T E i : Nat} {p : List Nat} {t t' : Tr} (ho : o.op = .call { callee := .builtin .len, args := #[x], argTypes := #[T] }) (hT : P.underlying T = some (.slice E)) (hx : ev s x = some (.own i p)) (hi : lk i s.objs = some (.tree t)) (hp : t.get p = some t') :
    PureOp P C o s (.val (.int .i64 t'.len)) := fun ψ φ a w hF => by
  obtain ⟨fp, _, h2, _⟩ := hF.tree hx hi hp
  obtain ⟨A, cap, e2⟩ := h2.len_slice
  exact ⟨_, fun w1 _ => by simp [execOp, ho, resolve, invoke, builtin, Builtin.len_, run_underlying hT, e2, goInt], .ro (.val _)⟩

/-! ### 9. Addresses, loads -/
theorem add_add (a : Addr) (m n : Nat) : (a.add m).add n = a.add (m + n) := by
  unfold Addr.add
  by_cases hm : m = 0
  · subst hm; simp
  · by_cases hn : n = 0
    · subst hn; simp
    · simp [hm, hn, Nat.add_assoc]
theorem add_block (a : Addr) (n : Nat) : (a.add n).block = a.block := by unfold Addr.add; split <;> rfl

/-- What a load of a type brings: one cell (none), or so many. -/
def ldK (P : Program) (T : TypeId) : Option (Option Nat) :=
  match P.underlying T, P.info? T with
  | some (.struct _), some i => some (some i.size)
  | some (.array _ _), some i => some (some i.size)
  | some _, some _ => some none
  | _, _ => none
theorem run_isAgg_one {T : TypeId} (h : ldK P T = some none) (w : World) : (isAgg T).run P w = .ok false w := by
  unfold ldK at h
  cases hu : P.underlying T with
  | none => rw [hu] at h; cases h
  | some d =>
    rw [hu] at h
    unfold isAgg
    simp only [Sem.run_bind, run_underlying hu, Result.andThen_ok]
    cases d with
    | struct fs => cases hi : P.info? T <;> rw [hi] at h <;> cases h
    | array n e => cases hi : P.info? T <;> rw [hi] at h <;> cases h
    | _ => rfl
theorem run_isAgg_agg {T m : Nat} (h : ldK P T = some (some m)) (w : World) : (isAgg T).run P w = .ok true w ∧ ∃ i, P.info? T = some i ∧ i.size = m := by
  unfold ldK at h
  cases hu : P.underlying T with
  | none => rw [hu] at h; cases h
  | some d =>
    rw [hu] at h
    unfold isAgg
    simp only [Sem.run_bind, run_underlying hu, Result.andThen_ok]
    cases hi : P.info? T with
    | none => rw [hi] at h; cases d <;> cases h
    | some i =>
      rw [hi] at h
      cases d with
      | struct fs => exact ⟨rfl, i, rfl, by simpa using h⟩
      | array n e => exact ⟨rfl, i, rfl, by simpa using h⟩
      | _ => cases h
theorem run_loadVar_one {T : TypeId} (h : ldK P T = some none) {w : World} {a : Addr} {v : Value} (hc : w.cell? a = some v) : (loadVar T a).run P w = .ok v w := by
  unfold loadVar
  simp only [Sem.run_bind, run_isAgg_one h, Result.andThen_ok, Bool.false_eq_true, if_false, run_load, hc]
theorem run_loadVar_agg {T m : Nat} (h : ldK P T = some (some m)) {w : World} {a : Addr} {vs : List Value} (hl : vs.length = m) (hc : ∀ (j : Nat) v, vs[j]? = some v → w.cell? (a.add j) = some v) : (loadVar T a).run P w = .ok (.agg vs.toArray) w := by
  obtain ⟨h1, i, hi, hs⟩ := run_isAgg_agg h w
  unfold loadVar
  simp only [Sem.run_bind, h1, Result.andThen_ok, if_true, sizeOf, typeInfo, run_program, hi, Sem.run_pure, hs]
  have := run_loadCells_list (P := P) w a vs hc
  rw [hl] at this
  simp [this]
end
end Go.Proofs.YtmiijpobhajfmaaGreat.J
namespace Go.Proofs.YtmiijpobhajfmaaGreat.J
open Go Go.RowKit
set_option linter.unusedVariables false
set_option linter.unusedSimpArgs false
section
variable {P : Program} {C : Ctx} {s : AS} {o : Oper}

/-! ### 10. Places -/
theorem run_sizeOf' {T n : Nat} (h : (P.info? T).map (·.size) = some n) (w : World) : (sizeOf T).run P w = .ok n w := by
  cases hi : P.info? T with
  | none => rw [hi] at h; cases h
  | some i =>
    rw [hi] at h
    simp only [Option.map_some, Option.some.injEq] at h
    simp [sizeOf, typeInfo, hi, h]
theorem run_indexAt' {T E sz : Nat} (hT : P.underlying T = some (.slice E)) (hE : (P.info? E).map (·.size) = some sz) (ad : Addr) (n cap : Nat) (k : IntKind) (i : Int) (h0 : 0 ≤ i) (h1 : i < n) (w : World) :
    (Instr.indexAt T (.slice (some ad) n cap) (.int k i)).run P w = .ok (.pointer (some (ad.add (i.toNat * sz)))) w := by
  simp [Instr.indexAt, asIntOf, run_underlying hT, run_sizeOf' hE, h0, h1]
theorem pure_index_sl {T E sz : Nat} {x y : Operand} {k : IntKind} {i : Int} {xs : List (List AV)} {e : List AV} (ho : o.op = .indexAddr T x y) (hT : P.underlying T = some (.slice E)) (hE : (P.info? E).map (·.size) = some sz)
    (hx : ev s x = some (.sl sz xs)) (hy : ev s y = some (.val (.int k i))) (h0 : 0 ≤ i) (he : xs[i.toNat]? = some e) : PureOp P C o s (.ref e) := fun ψ φ a w hF => by
  have hr := (hF.ev hx).sl_inv
  have hlt : i.toNat < xs.length := (List.getElem?_eq_some_iff.1 he).1
  generalize hv : a.eval x = v at hr
  cases hr with
  | slNil => simp at hlt
  | sl _ _ ad cap us hn hc hok hsz hcell h =>
    refine ⟨.pointer (some (ad.add (i.toNat * sz))), fun w1 _ => ?_, .ro (.ref e _ (fun c => us i.toNat c) (by rw [add_block]; exact hok) (fun c av hc => ?_) (fun c av hc => h _ e c av he hc))⟩
    · simp [execOp, ho, hv, hF.ev_val hy, run_indexAt' hT hE ad xs.length cap k i h0 (by omega)]
    · rw [add_add]
      exact hcell _ e c av he hc
def Tr.sz : Tr → Nat
  | .leaf _ sz _ => sz
  | .node _ _ => 1
  | .rv sz _ => sz
theorem pure_index_own {T E sz i' : Nat} {p : List Nat} {t t' : Tr} {x y : Operand} {k : IntKind} {i : Int} (ho : o.op = .indexAddr T x y) (hT : P.underlying T = some (.slice E)) (hE : (P.info? E).map (·.size) = some sz)
    (hx : ev s x = some (.own i' p)) (hi : lk i' s.objs = some (.tree t)) (hp : t.get p = some t') (hy : ev s y = some (.val (.int k i))) (h0 : 0 ≤ i) (h1 : i < t'.len) (hrow : t'.row = true := by exact rfl) : PureOp P C o s (.oref i' p sz i.toNat 0) := fun ψ φ a w hF => by
  obtain ⟨fp, e1, e2, e3⟩ := hF.tree hx hi hp
  obtain ⟨A, cap, e4⟩ := e2.len_slice
  have hA : ∃ g, A = some ⟨g, 0, none⟩ := by
    cases e2 with
    | leaf e sz xs v vs ho hf =>
      rcases ho.2 with ⟨h, h0'⟩ | ⟨g, _, _, h, _⟩
      · simp only [Tr.len] at h1; omega
      · rw [e4] at h
        cases h
        exact ⟨g, rfl⟩
    | rv => cases hrow
    | node e ts v vs fps ho hl h hnd =>
      rcases ho.2 with ⟨h, h0'⟩ | ⟨g, _, _, h, _⟩
      · simp only [Tr.len] at h1; omega
      · rw [e4] at h
        cases h
        exact ⟨g, rfl⟩
  obtain ⟨g, rfl⟩ := hA
  refine ⟨.pointer (some ⟨g, i.toNat * sz + 0, none⟩), fun w1 _ => ?_, .oref i' p sz _ 0 g t'.len cap ⟨_, hi, t', hp⟩ (by rw [← e4]; exact e1)⟩
  have e5 : (⟨g, 0, none⟩ : Addr).add (i.toNat * sz) = ⟨g, i.toNat * sz + 0, none⟩ := by
    rw [Addr.add_lit]; simp
  simp [execOp, ho, e4, hF.ev_val hy, run_indexAt' hT hE ⟨g, 0, none⟩ t'.len cap k i h0 (by omega), e5]
/-- An array's variable, at a constant. -/
theorem run_indexAt_arr {T E sz n : Nat} (hT : P.underlying T = some (.array n E)) (hE : (P.info? E).map (·.size) = some sz) (ad : Addr) (k : IntKind) (i : Int) (h0 : 0 ≤ i) (h1 : i < n) (w : World) :
    (Instr.indexAt T (.pointer (some ad)) (.int k i)).run P w = .ok (.pointer (some (ad.add (i.toNat * sz)))) w := by
  simp [Instr.indexAt, Instr.sureAddr, asIntOf, run_underlying hT, run_sizeOf' hE, h0, h1]
theorem RO.ref_drop {w : World} {ok : Nat → Prop} {cs : List AV} {ad : Addr} (h : RO w ok (.ref cs) (.pointer (some ad))) (m : Nat) : RO w ok (.ref (cs.drop m)) (.pointer (some (ad.add m))) := by
  cases h with
  | ref _ _ us hok hcell h =>
    refine .ref _ _ (fun c => us (m + c)) (by rw [add_block]; exact hok) (fun c av hc => ?_) (fun c av hc => h _ av (by rw [List.getElem?_drop] at hc; exact hc))
    rw [List.getElem?_drop] at hc
    rw [add_add]
    exact hcell _ av hc
theorem RO.ref_ptr {w : World} {ok : Nat → Prop} {cs : List AV} {v : Value} (h : RO w ok (.ref cs) v) : ∃ ad, v = .pointer (some ad) := by
  cases h with
  | ref _ ad _ _ _ _ => exact ⟨ad, rfl⟩
theorem pure_index_arr_ref {T E sz n : Nat} {x y : Operand} {k : IntKind} {i : Int} {cs : List AV} (ho : o.op = .indexAddr T x y) (hT : P.underlying T = some (.array n E)) (hE : (P.info? E).map (·.size) = some sz)
    (hx : ev s x = some (.ref cs)) (hy : ev s y = some (.val (.int k i))) (h0 : 0 ≤ i) (h1 : i < n) : PureOp P C o s (.ref (cs.drop (i.toNat * sz))) := fun ψ φ a w hF => by
  have hr := (hF.ev hx).ref_inv
  obtain ⟨ad, e⟩ := hr.ref_ptr
  rw [e] at hr
  refine ⟨_, fun w1 _ => ?_, .ro (hr.ref_drop (i.toNat * sz))⟩
  simp [execOp, ho, e, hF.ev_val hy, run_indexAt_arr hT hE ad k i h0 h1]
theorem pure_index_arr_box {T E sz n b off : Nat} {x y : Operand} {k : IntKind} {i : Int} (ho : o.op = .indexAddr T x y) (hT : P.underlying T = some (.array n E)) (hE : (P.info? E).map (·.size) = some sz)
    (hx : ev s x = some (.box b off)) (hy : ev s y = some (.val (.int k i))) (h0 : 0 ≤ i) (h1 : i < n) : PureOp P C o s (.box b (off + i.toNat * sz)) := fun ψ φ a w hF => by
  obtain ⟨g, e1, e2, e3⟩ := (hF.ev hx).box_inv
  refine ⟨.pointer (some ⟨g, off + i.toNat * sz, none⟩), fun w1 _ => ?_, .box b _ g e3 e1⟩
  simp [execOp, ho, e2, hF.ev_val hy, run_indexAt_arr hT hE _ k i h0 h1, Addr.add_lit]
theorem pure_index_arr_oref {T E sz n b zs j c : Nat} {p : List Nat} {x y : Operand} {k : IntKind} {i : Int} (ho : o.op = .indexAddr T x y) (hT : P.underlying T = some (.array n E)) (hE : (P.info? E).map (·.size) = some sz)
    (hx : ev s x = some (.oref b p zs j c)) (hy : ev s y = some (.val (.int k i))) (h0 : 0 ≤ i) (h1 : i < n) : PureOp P C o s (.oref b p zs j (c + i.toNat * sz)) := fun ψ φ a w hF => by
  obtain ⟨g, m, cap, e1, e2, e3⟩ := (hF.ev hx).oref_inv
  refine ⟨.pointer (some ⟨g, j * zs + (c + i.toNat * sz), none⟩), fun w1 _ => ?_, .oref b p zs j _ g m cap e3 e1⟩
  simp [execOp, ho, e2, hF.ev_val hy, run_indexAt_arr hT hE _ k i h0 h1, Addr.add_lit, Nat.add_assoc]

/-- A field's offset, where the field has cells. -/
def fldO (P : Program) (S f : Nat) : Option Nat :=
  match P.underlying S with
  | some (.struct fs) => match fs[f]? with
    | some fd => match (P.info? fd.type).map (·.size) with
      | some (_ + 1) => some fd.offset
      | _ => none
    | none => none
  | _ => none
theorem run_fieldAt {S f off : Nat} (h : fldO P S f = some off) (ad : Addr) (w : World) : (Instr.fieldAt S (.pointer (some ad)) f).run P w = .ok (.pointer (some (ad.add off))) w := by
  unfold fldO at h
  split at h
  · rename_i fs hu
    split at h
    · rename_i fd hf
      split at h
      · rename_i m hs
        obtain rfl := Option.some.inj h
        simp [Instr.fieldAt, Instr.sureAddr, run_underlying hu, hf, fieldPlace, run_sizeOf' hs]
      · cases h
    · cases h
  · cases h
theorem pure_field_ref {S f off : Nat} {x : Operand} {cs : List AV} (ho : o.op = .fieldAddr S x f) (h : fldO P S f = some off) (hx : ev s x = some (.ref cs)) : PureOp P C o s (.ref (cs.drop off)) := fun ψ φ a w hF => by
  have hr := (hF.ev hx).ref_inv
  obtain ⟨ad, e⟩ := hr.ref_ptr
  rw [e] at hr
  exact ⟨_, fun w1 _ => by simp [execOp, ho, e, run_fieldAt h], .ro (hr.ref_drop off)⟩
theorem pure_field_box {S f off b o0 : Nat} {x : Operand} (ho : o.op = .fieldAddr S x f) (h : fldO P S f = some off) (hx : ev s x = some (.box b o0)) : PureOp P C o s (.box b (o0 + off)) := fun ψ φ a w hF => by
  obtain ⟨g, e1, e2, e3⟩ := (hF.ev hx).box_inv
  exact ⟨.pointer (some ⟨g, o0 + off, none⟩), fun w1 _ => by simp [execOp, ho, e2, run_fieldAt h, Addr.add_lit], .box b _ g e3 e1⟩
theorem pure_field_oref {S f off b zs j c : Nat} {p : List Nat} {x : Operand} (ho : o.op = .fieldAddr S x f) (h : fldO P S f = some off) (hx : ev s x = some (.oref b p zs j c)) : PureOp P C o s (.oref b p zs j (c + off)) := fun ψ φ a w hF => by
  obtain ⟨g, m, cap, e1, e2, e3⟩ := (hF.ev hx).oref_inv
  exact ⟨.pointer (some ⟨g, j * zs + (c + off), none⟩), fun w1 _ => by simp [execOp, ho, e2, run_fieldAt h, Addr.add_lit, Nat.add_assoc], .oref b p zs j _ g m cap e3 e1⟩
theorem pure_nilCheck_ref {x : Operand} {cs : List AV} (ho : o.op = .nilCheck x) (hx : ev s x = some (.ref cs)) : PureOp P C o s (.ref cs) := fun ψ φ a w hF => by
  have hr := hF.ev hx
  obtain ⟨ad, e⟩ := hr.ref_inv.ref_ptr
  exact ⟨a.eval x, fun w1 _ => by simp [execOp, ho, e], hr⟩
theorem pure_nilCheck_box {x : Operand} {b off : Nat} (ho : o.op = .nilCheck x) (hx : ev s x = some (.box b off)) : PureOp P C o s (.box b off) := fun ψ φ a w hF => by
  have hr := hF.ev hx
  obtain ⟨g, e1, e2, e3⟩ := hr.box_inv
  exact ⟨a.eval x, fun w1 _ => by simp [execOp, ho, e2], hr⟩

/-! ### 11. Loads -/
theorem pure_load_ref {T : Nat} {x : Operand} {cs : List AV} {av : AV} (ho : o.op = .load T x) (hT : ldK P T = some none) (hx : ev s x = some (.ref cs)) (h0 : cs[0]? = some av) : PureR P C (some []) o s av := fun ψ φ a w hF => by
  have hr := (hF.ev hx).ref_inv
  generalize hv : a.eval x = v at hr
  cases hr with
  | ref _ ad us hok hcell h =>
    refine ⟨us 0, fun w1 hb => ?_, .ro (h 0 av h0)⟩
    have hc := (hcell 0 av h0).1
    rw [Addr.add_zero'] at hc
    have hc1 : w1.cell? ad = some (us 0) := by rw [World.cell?_of_block (w := w) (hb.block _ hok.2.1 (.inl hok))]; exact hc
    simp [execOp, ho, hv, Instr.loadAt, Instr.sureAddr, run_loadVar_one hT hc1]
theorem pure_load_ref_agg {T m : Nat} {x : Operand} {cs : List AV} (ho : o.op = .load T x) (hT : ldK P T = some (some m)) (hx : ev s x = some (.ref cs)) (hm : m ≤ cs.length) : PureR P C (some []) o s (.agg (cs.take m)) := fun ψ φ a w hF => by
  have hr := (hF.ev hx).ref_inv
  generalize hv : a.eval x = v at hr
  cases hr with
  | ref _ ad us hok hcell h =>
    have hl : ((List.range m).map us).length = m := by simp
    refine ⟨.agg ((List.range m).map us).toArray, fun w1 hb => ?_, .ro (.agg _ _ (by simp [Nat.min_eq_left hm]) (fun j av u ha hu => ?_))⟩
    · have hc1 : ∀ (j : Nat) v, ((List.range m).map us)[j]? = some v → w1.cell? (ad.add j) = some v := by
        intro j v hj
        have hjm : j < m := by have := (List.getElem?_eq_some_iff.1 hj).1; simpa using this
        obtain ⟨av, hav⟩ : ∃ av, cs[j]? = some av := ⟨_, List.getElem?_eq_getElem (by omega)⟩
        have e : us j = v := by simpa [hjm] using hj
        rw [World.cell?_of_block (w := w) (by rw [add_block]; exact hb.block _ hok.2.1 (.inl hok)), ← e]
        exact (hcell j av hav).1
      simp [execOp, ho, hv, Instr.loadAt, Instr.sureAddr, run_loadVar_agg hT hl hc1]
    · have hjm : j < m := by
        rw [List.getElem?_take] at ha
        split at ha
        · assumption
        · cases ha
      rw [List.getElem?_take, if_pos hjm] at ha
      have e : us j = u := by simpa [hjm] using hu
      rw [← e]
      exact h j av ha
theorem box_cells {w : World} {B : Nat} {ok : Nat → Prop} {ids : Nat → List Nat → Prop} {ψ : Nat → List Nat} {φ : Nat → Value} {T b : Nat} {cs : List AV} {fp : List Nat} (h : ObjAt w B ok ids ψ φ (.box T cs) (.pointer (some ⟨b, 0, none⟩)) fp) :
    b ∈ fp ∧ ∃ us : Nat → Value, (∀ (j : Nat) a, cs[j]? = some a → w.cell? ⟨b, j, none⟩ = some (us j) ∧ (us j).oneCell' = true ∧ Rep w ok ids ψ φ a (us j)) := by
  obtain ⟨b', cur, hb, hfp, hB, hc, hs, h1, hr⟩ := h
  simp only [Value.pointer.injEq, Option.some.injEq, Addr.mk.injEq, and_true] at hb
  subst hb
  refine ⟨by rw [hfp]; simp, fun j => cur.getD j undef, fun j a ha => ?_⟩
  have hj : j < cur.size := by rw [hs]; exact (List.getElem?_eq_some_iff.1 ha).1
  have e : cur[j]? = some (cur.getD j undef) := by
    rw [Array.getD_eq_getD_getElem?, Array.getElem?_eq_getElem hj]; rfl
  refine ⟨by rw [cell_of_row w b j cur T (0, 0) hc, e], h1 _ ?_, hr j a _ ha e⟩
  exact Array.mem_toList_iff.2 (Array.mem_of_getElem? e)
theorem pure_load_box {T T0 i off : Nat} {x : Operand} {cs : List AV} {av : AV} (ho : o.op = .load T x) (hT : ldK P T = some none) (hx : ev s x = some (.box i off)) (hi : lk i s.objs = some (.box T0 cs)) (h0 : cs[off]? = some av) : PureR P C (some [i]) o s av := fun ψ φ a w hF => by
  obtain ⟨g, e1, e2, e3⟩ := (hF.ev hx).box_inv
  have hobj := hF.hp.objs i _ hi
  rw [e1] at hobj
  obtain ⟨hgf, us, hus⟩ := box_cells hobj
  obtain ⟨hc, _, hr⟩ := hus off av h0
  refine ⟨us off, fun w1 hb => ?_, hr⟩
  have hc1 : w1.cell? ⟨g, off, none⟩ = some (us off) := by rw [World.cell?_of_block (w := w) (hb.block _ (hF.hp.lt hi hgf).2 (.inr ⟨i, _, by simp, hi, hgf⟩))]; exact hc
  simp [execOp, ho, e2, Instr.loadAt, Instr.sureAddr, run_loadVar_one hT hc1]
theorem pure_load_box_agg {T T0 i off m : Nat} {x : Operand} {cs : List AV} (ho : o.op = .load T x) (hT : ldK P T = some (some m)) (hx : ev s x = some (.box i off)) (hi : lk i s.objs = some (.box T0 cs)) (hm : off + m ≤ cs.length) : PureR P C (some [i]) o s (.agg ((cs.drop off).take m)) := fun ψ φ a w hF => by
  obtain ⟨g, e1, e2, e3⟩ := (hF.ev hx).box_inv
  have hobj := hF.hp.objs i _ hi
  rw [e1] at hobj
  obtain ⟨hgf, us, hus⟩ := box_cells hobj
  have hl : ((List.range m).map fun j => us (off + j)).length = m := by simp
  refine ⟨.agg ((List.range m).map fun j => us (off + j)).toArray, fun w1 hb => ?_, .agg _ _ (by simp; omega) (fun j av u ha hu => ?_)⟩
  · have hc1 : ∀ (j : Nat) v, ((List.range m).map fun j => us (off + j))[j]? = some v → w1.cell? ((⟨g, off, none⟩ : Addr).add j) = some v := by
      intro j v hj
      have hjm : j < m := by have := (List.getElem?_eq_some_iff.1 hj).1; simpa using this
      obtain ⟨av, hav⟩ : ∃ av, cs[off + j]? = some av := ⟨_, List.getElem?_eq_getElem (by omega)⟩
      have e : us (off + j) = v := by simpa [hjm] using hj
      rw [World.cell?_of_block (w := w) (by rw [add_block]; exact hb.block _ (hF.hp.lt hi hgf).2 (.inr ⟨i, _, by simp, hi, hgf⟩)), ← e, Addr.add_lit]
      exact (hus _ av hav).1
    simp [execOp, ho, e2, Instr.loadAt, Instr.sureAddr, run_loadVar_agg hT hl hc1]
  · have hjm : j < m := by
      rw [List.getElem?_take] at ha
      split at ha
      · assumption
      · cases ha
    rw [List.getElem?_take, if_pos hjm, List.getElem?_drop] at ha
    have e : us (off + j) = u := by simpa [hjm] using hu
    rw [← e]
    exact (hus _ av ha).2.2
theorem row_cells {w : World} {ok : Nat → Prop} {B e sz g n cap : Nat} {xs : List (List AV)} {vs : List Value} (ho : w.ownsRow B e sz (.slice (some ⟨g, 0, none⟩) n cap) xs.length vs) (hf : Flat w ok sz xs vs) :
    ∃ us : Nat → Nat → Value, (∀ (j : Nat) x (c : Nat) a, xs[j]? = some x → x[c]? = some a → w.cell? ⟨g, j * sz + c, none⟩ = some (us j c) ∧ (us j c).oneCell' = true ∧ RO w ok a (us j c)) := by
  refine ⟨fun j c => vs.getD (j * sz + c) undef, fun j x c a hx ha => ?_⟩
  obtain ⟨u, hu, hr⟩ := hf.at_ j x c a hx ha
  have e : vs.getD (j * sz + c) undef = u := by rw [List.getD_eq_getElem?_getD, hu]; rfl
  dsimp only
  rw [e]
  exact ⟨owns_cell ho _ u hu, hf.one u (List.mem_of_getElem? hu), hr⟩
/-- What a place in a row of plain cells leads to. -/
theorem SimF.leaf {ψ : Nat → List Nat} {φ : Nat → Value} {a : Act} {w : World} (hF : SimF C ψ φ s a w) {x : Operand} {i e sz j c : Nat} {p : List Nat} {t : Tr} {xs : List (List AV)} (hx : J.ev s x = some (.oref i p sz j c)) (hi : lk i s.objs = some (.tree t)) (hp : t.get p = some (.leaf e sz xs)) :
    ∃ g n cap vs, a.eval x = .pointer (some ⟨g, j * sz + c, none⟩) ∧ g ∈ ψ i ∧ w.ownsRow 0 e sz (.slice (some ⟨g, 0, none⟩) n cap) xs.length vs ∧ Flat w (okS C ψ s.objs w) sz xs vs := by
  obtain ⟨g, n, cap, e1, e2, e3⟩ := (hF.ev hx).oref_inv
  obtain ⟨v', fp', h3, h4, h5⟩ := TreeAt.get (hF.hp.objs i _ hi) hp
  have e := e1.same h3
  subst e
  cases h4 with
  | leaf _ _ _ _ vs ho hf => exact ⟨g, n, cap, vs, e2, h5 g (by simp [blk]), ho, hf⟩
theorem pure_load_oref {T i e sz j c : Nat} {p : List Nat} {t : Tr} {x : Operand} {xs : List (List AV)} {y : List AV} {av : AV} (ho : o.op = .load T x) (hT : ldK P T = some none) (hx : ev s x = some (.oref i p sz j c)) (hi : lk i s.objs = some (.tree t)) (hp : t.get p = some (.leaf e sz xs))
    (hy : xs[j]? = some y) (hc : y[c]? = some av) : PureR P C (some [i]) o s av := fun ψ φ a w hF => by
  obtain ⟨g, n, cap, vs, e2, e3, hown, hf⟩ := hF.leaf hx hi hp
  obtain ⟨us, hus⟩ := row_cells hown hf
  obtain ⟨hcell, _, hr⟩ := hus j y c av hy hc
  refine ⟨us j c, fun w1 hb => ?_, .ro hr⟩
  have hc1 : w1.cell? ⟨g, j * sz + c, none⟩ = some (us j c) := by rw [World.cell?_of_block (w := w) (hb.block _ (hF.hp.lt hi e3).2 (.inr ⟨i, _, by simp, hi, e3⟩))]; exact hcell
  simp [execOp, ho, e2, Instr.loadAt, Instr.sureAddr, run_loadVar_one hT hc1]
theorem pure_load_oref_agg {T i e sz j c m : Nat} {p : List Nat} {t : Tr} {x : Operand} {xs : List (List AV)} {y : List AV} (ho : o.op = .load T x) (hT : ldK P T = some (some m)) (hx : ev s x = some (.oref i p sz j c)) (hi : lk i s.objs = some (.tree t)) (hp : t.get p = some (.leaf e sz xs))
    (hy : xs[j]? = some y) (hm : c + m ≤ y.length) : PureR P C (some [i]) o s (.agg ((y.drop c).take m)) := fun ψ φ a w hF => by
  obtain ⟨g, n, cap, vs, e2, e3, hown, hf⟩ := hF.leaf hx hi hp
  obtain ⟨us, hus⟩ := row_cells hown hf
  have hl : ((List.range m).map fun q => us j (c + q)).length = m := by simp
  refine ⟨.agg ((List.range m).map fun q => us j (c + q)).toArray, fun w1 hb => ?_, .ro (.agg _ _ (by simp; omega) (fun q av u ha hu => ?_))⟩
  · have hc1 : ∀ (q : Nat) v, ((List.range m).map fun q => us j (c + q))[q]? = some v → w1.cell? ((⟨g, j * sz + c, none⟩ : Addr).add q) = some v := by
      intro q v hq
      have hqm : q < m := by have := (List.getElem?_eq_some_iff.1 hq).1; simpa using this
      obtain ⟨av, hav⟩ : ∃ av, y[c + q]? = some av := ⟨_, List.getElem?_eq_getElem (by omega)⟩
      have e : us j (c + q) = v := by simpa [hqm] using hq
      rw [World.cell?_of_block (w := w) (by rw [add_block]; exact hb.block _ (hF.hp.lt hi e3).2 (.inr ⟨i, _, by simp, hi, e3⟩)), ← e, Addr.add_lit, Nat.add_assoc]
      exact (hus _ y _ av hy hav).1
    simp [execOp, ho, e2, Instr.loadAt, Instr.sureAddr, run_loadVar_agg hT hl hc1]
  · have hqm : q < m := by
      rw [List.getElem?_take] at ha
      split at ha
      · assumption
      · cases ha
    rw [List.getElem?_take, if_pos hqm, List.getElem?_drop] at ha
    have e : us j (c + q) = u := by simpa [hqm] using hu
    rw [← e]
    exact (hus j y _ av hy ha).2.2
theorem Tr.get_snoc : ∀ {p : List Nat} {t : Tr} {e j : Nat} {ts : List Tr} {t' : Tr}, t.get p = some (.node e ts) → ts[j]? = some t' → t.get (p ++ [j]) = some t'
  | [], t, e, j, ts, t', h, hj => by
    simp only [Tr.get, Option.some.injEq] at h
    subst h
    simp [Tr.get, hj]
  | q :: p, t, e, j, ts, t', h, hj => by
    cases t with
    | leaf => simp [Tr.get] at h
    | rv => simp [Tr.get] at h
    | node e1 us =>
      simp only [Tr.get, List.cons_append] at h ⊢
      cases hq : us[q]? with
      | none => rw [hq] at h; cases h
      | some u => rw [hq] at h; exact Tr.get_snoc h hj
/-- A row of rows: one of its rows. -/
theorem pure_load_node {T i e j : Nat} {p : List Nat} {t t' : Tr} {x : Operand} {ts : List Tr} (ho : o.op = .load T x) (hT : ldK P T = some none) (hx : ev s x = some (.oref i p 1 j 0)) (hi : lk i s.objs = some (.tree t)) (hp : t.get p = some (.node e ts))
    (hj : ts[j]? = some t') : PureR P C (some [i]) o s (.own i (p ++ [j])) := fun ψ φ a w hF => by
  obtain ⟨g, n, cap, e1, e2, e3⟩ := (hF.ev hx).oref_inv
  obtain ⟨v', fp', h3, h4, h5⟩ := TreeAt.get (hF.hp.objs i _ hi) hp
  have e := e1.same h3
  subst e
  cases h4 with
  | node _ _ _ vs fps hown hl h hnd =>
    have hvl : vs.length = ts.length := by rw [hown.1, Nat.mul_one]
    have hjl : j < ts.length := (List.getElem?_eq_some_iff.1 hj).1
    have hv1 : vs[j]? = some vs[j] := List.getElem?_eq_getElem (by omega)
    have hcell := owns_cell hown j _ hv1
    have hg : g ∈ ψ i := h5 g (List.mem_append_left _ (by simp [blk]))
    refine ⟨vs[j], fun w1 hb => ?_, .own i _ _ ⟨_, hi, t', Tr.get_snoc hp hj⟩ (At.snoc hg hcell e1)⟩
    have hc1 : w1.cell? ⟨g, j, none⟩ = some vs[j] := by
      rw [World.cell?_of_block (w := w) (hb.block _ (hF.hp.lt hi hg).2 (.inr ⟨i, _, by simp, hi, hg⟩))]; exact hcell
    simp [execOp, ho, e2, Instr.loadAt, Instr.sureAddr, run_loadVar_one hT hc1]
end
end Go.Proofs.YtmiijpobhajfmaaGreat.J
namespace Go.Proofs.YtmiijpobhajfmaaGreat.J
open Go Go.RowKit
set_option linter.unusedVariables false
set_option linter.unusedSimpArgs false

/-! ### 12. Forgetting objects' handles -/
mutual
def AV.men (D : List Nat) : AV → Bool
  | .own j _ => D.elem j
  | .box j _ => D.elem j
  | .oref j _ _ _ _ => D.elem j
  | .agg cs => AV.menL D cs
  | .tup cs => AV.menL D cs
  | .clo _ _ cs => AV.menL D cs
  | .part j _ _ _ _ => D.elem j
  | _ => false
def AV.menL (D : List Nat) : List AV → Bool
  | [] => false
  | a :: r => a.men D || AV.menL D r
end
theorem menL_mem (D : List Nat) : ∀ (cs : List AV), AV.menL D cs = false → ∀ a ∈ cs, a.men D = false
  | [], _, a, h => by cases h
  | b :: r, h, a, ha => by
    simp only [AV.menL, Bool.or_eq_false_iff] at h
    rcases List.mem_cons.1 ha with rfl | ha
    · exact h.1
    · exact menL_mem D r h.2 a ha
theorem elem_false {D : List Nat} {j : Nat} (h : D.elem j = false) : j ∉ D := by
  intro hj
  rw [List.elem_eq_true_of_mem hj] at h
  cases h
theorem Rep.free {w : World} {ok : Nat → Prop} {ids : Nat → List Nat → Prop} {ψ : Nat → List Nat} {φ : Nat → Value} {a : AV} {v : Value} (h : Rep w ok ids ψ φ a v) {D : List Nat} (hf : a.men D = false) : Rep w ok (fun j p => ids j p ∧ j ∉ D) ψ φ a v := by
  induction h with
  | ro h => exact .ro h
  | own j p v h ha => exact .own j p v ⟨h, elem_false hf⟩ ha
  | box j off b h hb => exact .box j off b ⟨h, elem_false hf⟩ hb
  | oref j p sz q c g n cap h ha => exact .oref j p sz q c g n cap ⟨h, elem_false hf⟩ ha
  | part j p sz l n m cap A h ha hl hn hm => exact .part j p sz l n m cap A ⟨h, elem_false hf⟩ ha hl hn hm
  | agg cs vs hl _ ih => exact .agg cs vs hl (fun j a u ha hu => ih j a u ha hu (menL_mem D cs hf a (List.mem_of_getElem? ha)))
  | tup cs vs hl _ ih => exact .tup cs vs hl (fun j a u ha hu => ih j a u ha hu (menL_mem D cs hf a (List.mem_of_getElem? ha)))
  | clo g nf cs vf vc hl hn _ ih => exact .clo g nf cs vf vc hl hn (fun j a u ha hu => ih j a u ha hu (menL_mem D cs hf a (List.mem_of_getElem? ha)))

/-- A value without the handles of D's objects. -/
def jk (D : List Nat) (a : AV) : AV := bif a.men D then .junk else a
def jkE (D : List Nat) : List (Nat × AV) → List (Nat × AV)
  | [] => []
  | (t, a) :: r => (t, jk D a) :: jkE D r
def jkB (D : List Nat) : Obj → Obj
  | .box T cs => .box T (cs.map (jk D))
  | o => o
def jkO (D : List Nat) : List (Nat × Obj) → List (Nat × Obj)
  | [] => []
  | (j, o) :: r => bif D.elem j then jkO D r else (j, jkB D o) :: jkO D r
theorem lk_jkE (D : List Nat) (t : Nat) : ∀ l : List (Nat × AV), lk t (jkE D l) = (lk t l).map (jk D)
  | [] => rfl
  | (k, a) :: r => by
    simp only [jkE, lk_cons]
    by_cases h : k = t
    · simp [h]
    · simp [h, lk_jkE D t r]
theorem lk_jkO (D : List Nat) (t : Nat) : ∀ l : List (Nat × Obj), lk t (jkO D l) = if t ∈ D then none else (lk t l).map (jkB D)
  | [] => by simp [jkO, lk]
  | (k, a) :: r => by
    have ih := lk_jkO D t r
    simp only [jkO]
    by_cases h : k ∈ D
    · rw [List.elem_eq_true_of_mem h, cond_true, ih, lk_cons]
      by_cases h2 : k = t
      · subst h2
        rw [if_pos h, if_pos h]
      · rw [if_neg h2]
    · have : D.elem k = false := by
        cases e : D.elem k
        · rfl
        · exact absurd (List.mem_of_elem_eq_true e) h
      rw [this, cond_false, lk_cons, lk_cons, ih]
      by_cases h2 : k = t
      · subst h2
        rw [if_pos rfl, if_neg h, if_pos rfl]
        rfl
      · rw [if_neg h2, if_neg h2]
theorem Rep.jk {w : World} {ok : Nat → Prop} {ids : Nat → List Nat → Prop} {ψ : Nat → List Nat} {φ : Nat → Value} {a : AV} {v : Value} (h : Rep w ok ids ψ φ a v) (D : List Nat) : Rep w ok (fun j p => ids j p ∧ j ∉ D) ψ φ (J.jk D a) v := by
  unfold J.jk
  cases e : a.men D with
  | false => exact h.free e
  | true => exact .ro (.junk v)

/-- The world has changed in some blocks alone. -/
theorem Ch.of_grown {w w1 : World} {row : Option Nat} {may : Nat → Prop} (h : w.grownBy w1 row) (hm : ∀ k, row = some k → may k) : Ch w w1 may :=
  ⟨h.os, h.tape, h.output, h.size, fun k hk hn => h.block k hk (fun e => hn (hm k e.symm))⟩
/-- The blocks of some objects. -/

theorem boxSim {w w1 : World} {B : Nat} {ok ok1 : Nat → Prop} {ids ids1 : Nat → List Nat → Prop} {ψ ψ1 : Nat → List Nat} {φ φ1 : Nat → Value} {o : Obj} {v : Value} {fp : List Nat} (f : AV → AV) (g : Obj → Obj) (hg : ∀ T cs, g (.box T cs) = .box T (cs.map f)) (hr : ∀ t, g (.tree t) = .tree t) (hq : ∀ t, g (.mp t) = .mp t)
    (h : ObjAt w B ok ids ψ φ o v fp) (hb : ∀ k ∈ fp, w1.heap[k]? = w.heap[k]?) (hm : ∀ k, ok k → w1.heap[k]? = w.heap[k]?) (hk : ∀ k, ok k → ok1 k) (hf : ∀ a u, Rep w ok ids ψ φ a u → Rep w1 ok1 ids1 ψ1 φ1 (f a) u) : ObjAt w1 B ok1 ids1 ψ1 φ1 (g o) v fp := by
  cases o with
  | tree t =>
    rw [hr]
    exact TreeAt.move h hb hm hk
  | mp ks =>
    rw [hq]
    exact MpAt.move h hb
  | box T cs =>
    rw [hg]
    obtain ⟨b, cur, rfl, rfl, hB, hc, hs, h1, hr⟩ := h
    refine ⟨b, cur, rfl, rfl, hB, (hb b (by simp)).trans hc, by simpa using hs, h1, fun j a u ha hu => ?_⟩
    rw [List.getElem?_map, Option.map_eq_some_iff] at ha
    obtain ⟨a0, ha0, rfl⟩ := ha
    exact hf a0 u (hr j a0 u ha0 hu)
theorem fixable_jkB {D : List Nat} {i : Nat} {o : Obj} : fixable i (jkB D o) = fixable i o := by cases o <;> rfl
theorem has_jkB {D : List Nat} {o : Obj} {p : List Nat} : (jkB D o).has p ↔ o.has p := by cases o <;> exact Iff.rfl

/-- Object i is made anew out of D's objects (i is one of them): their elder handles are lost. -/
theorem SimF.mod {C : Ctx} {ψ : Nat → List Nat} {φ : Nat → Value} {s : AS} {a : Act} {w w1 : World} (h : SimF C ψ φ s a w) (D : List Nat) (i : Nat) (o' : Obj) (v' : Value) (fp' : List Nat) (hi : i ∈ D) (hg : Ch w w1 (inD ψ s.objs D)) (hfx : fixable i o' = false)
    (hv : ∀ k ∈ fp', inD ψ s.objs D k ∨ w.heap.size ≤ k)
    (ho : ∀ ok ids ψ' φ', (∀ k, okS C ψ s.objs w k → ok k) → ObjAt w1 0 ok ids ψ' φ' o' v' fp') :
    SimF C (ups ψ i fp') (ups φ i v') ⟨jkE D s.env, (i, o') :: jkO D s.objs⟩ a w1 := by
  have hlkb : ∀ j oj, j ≠ i → lk j ((i, o') :: jkO D s.objs) = some oj → j ∉ D ∧ ∃ x, lk j s.objs = some x ∧ jkB D x = oj := by
    intro j oj hne hj
    rw [lk_cons, if_neg (Ne.symm hne), lk_jkO] at hj
    by_cases e : j ∈ D
    · rw [if_pos e] at hj; cases hj
    · rw [if_neg e, Option.map_eq_some_iff] at hj
      exact ⟨e, hj⟩
  have hlkf : ∀ j x, j ∉ D → lk j s.objs = some x → lk j ((i, o') :: jkO D s.objs) = some (jkB D x) := by
    intro j x hne hj
    rw [lk_cons, if_neg (fun e : i = j => hne (e ▸ hi)), lk_jkO, if_neg hne, hj]
    rfl
  have hne : ∀ j, j ∉ D → j ≠ i := fun j hj e => hj (e ▸ hi)
  have hoth : ∀ j oj, j ∉ D → lk j s.objs = some oj → ∀ k ∈ ψ j, w1.heap[k]? = w.heap[k]? := fun j oj hj hl k hk =>
    hg.block k (h.hp.lt hl hk).2 (fun ⟨d, od, hd, hld, hkd⟩ => hj (h.hp.disj j d oj od k hl hld hk hkd ▸ hd))
  have hmv : Mv w w1 (fun j p => idsS s.objs j p ∧ j ∉ D) (idsS ((i, o') :: jkO D s.objs)) ψ (ups ψ i fp') φ (ups φ i v') :=
    Mv.of_same (fun j p ⟨⟨oj, hl, hp⟩, hj⟩ => ⟨_, hlkf j oj hj hl, has_jkB.2 hp⟩) (fun j p ⟨_, hj⟩ => ⟨ups_ne _ _ (hne j hj), ups_ne _ _ (hne j hj)⟩) (fun j p ⟨⟨oj, hl, _⟩, hj⟩ => hoth j oj hj hl)
  have hblk : ∀ k, okS C ψ s.objs w k → w1.heap[k]? = w.heap[k]? := fun k hk => hg.block k hk.2.1 (fun ⟨d, od, _, hld, hkd⟩ => hk.2.2 d od hld hkd)
  have hok : ∀ k, okS C ψ s.objs w k → okS C (ups ψ i fp') ((i, o') :: jkO D s.objs) w1 k := by
    rintro k ⟨k1, k2, k3⟩
    refine ⟨k1, Nat.lt_of_lt_of_le k2 hg.size, fun j oj hj hk => ?_⟩
    by_cases e : j = i
    · subst e
      rw [ups_self] at hk
      rcases hv k hk with ⟨d, od, _, hld, hkd⟩ | h1
      · exact k3 d od hld hkd
      · omega
    · rw [ups_ne _ _ e] at hk
      obtain ⟨_, x, hx, _⟩ := hlkb j oj e hj
      exact k3 j x hx hk
  have hbelow : Ch C.w0 w1 C.bor := by
    refine h.hp.below.trans hg (fun k hk ⟨d, od, _, hld, hkd⟩ => ?_)
    rcases (h.hp.lt hld hkd).1 with h1 | h1
    · omega
    · exact h1
  have hrep : ∀ a u, Rep w (okS C ψ s.objs w) (idsS s.objs) ψ φ a u → Rep w1 (okS C (ups ψ i fp') ((i, o') :: jkO D s.objs) w1) (idsS ((i, o') :: jkO D s.objs)) (ups ψ i fp') (ups φ i v') (J.jk D a) u := fun a u hr => (hr.jk D).move hblk hok hmv
  refine ⟨h.defers, h.size, ⟨hbelow, fun j o2 hj => ?_, ?_, ?_, ?_⟩, fun t av ht => ?_⟩
  · by_cases e : j = i
    · subst e
      rw [lk_cons, if_pos rfl] at hj
      obtain rfl := Option.some.inj hj
      rw [ups_self, ups_self]
      exact ho _ _ _ _ hok
    · obtain ⟨hjD, x, hx, rfl⟩ := hlkb j o2 e hj
      rw [ups_ne _ _ e, ups_ne _ _ e]
      exact boxSim (J.jk D) (jkB D) (fun _ _ => rfl) (fun _ => rfl) (fun _ => rfl) (h.hp.objs j x hx) (hoth j x hjD hx) hblk hok hrep
  · intro j j' oj oj' k hj hj' hk hk'
    by_cases e : j = i
    · by_cases e' : j' = i
      · rw [e, e']
      · rw [e, ups_self] at hk
        rw [ups_ne _ _ e'] at hk'
        obtain ⟨hjD', x', hx', _⟩ := hlkb j' oj' e' hj'
        rcases hv k hk with ⟨d, od, hd, hld, hkd⟩ | h1
        · exact absurd (h.hp.disj j' d x' od k hx' hld hk' hkd ▸ hd) hjD'
        · have := (h.hp.lt hx' hk').2
          omega
    · rw [ups_ne _ _ e] at hk
      obtain ⟨hjD, x, hx, _⟩ := hlkb j oj e hj
      by_cases e' : j' = i
      · rw [e', ups_self] at hk'
        rcases hv k hk' with ⟨d, od, hd, hld, hkd⟩ | h1
        · exact absurd (h.hp.disj j d x od k hx hld hk hkd ▸ hd) hjD
        · have := (h.hp.lt hx hk).2
          omega
      · rw [ups_ne _ _ e'] at hk'
        obtain ⟨_, x', hx', _⟩ := hlkb j' oj' e' hj'
        exact h.hp.disj j j' x x' k hx hx' hk hk'
  · intro j oj k hj hk
    by_cases e : j = i
    · rw [e, ups_self] at hk
      rcases hv k hk with ⟨d, od, _, hld, hkd⟩ | h1
      · exact h.hp.own d od k hld hkd
      · exact .inl (Nat.le_trans h.hp.below.size h1)
    · rw [ups_ne _ _ e] at hk
      obtain ⟨_, x, hx, _⟩ := hlkb j oj e hj
      exact h.hp.own j x k hx hk
  · intro j u oj hu hj hf
    by_cases e : j = i
    · subst e
      rw [lk_cons, if_pos rfl] at hj
      obtain rfl := Option.some.inj hj
      rw [hfx] at hf
      cases hf
    · rw [ups_ne _ _ e]
      obtain ⟨_, x, hx, rfl⟩ := hlkb j _ e hj
      exact h.hp.fix j u x hu hx (by rw [← fixable_jkB (D := D)]; exact hf)
  · rw [lk_jkE, Option.map_eq_some_iff] at ht
    obtain ⟨x, hx, rfl⟩ := ht
    exact ⟨(h.env t x hx).1, hrep x _ (h.env t x hx).2⟩

theorem SimF.modF {C : Ctx} {ψ : Nat → List Nat} {φ : Nat → Value} {s : AS} {a : Act} {w w1 : World} (h : SimF C ψ φ s a w) (D : List Nat) (i : Nat) (o' : Obj) (v' : Value) (fp' : List Nat) (hi : i ∈ D) (hg : Ch w w1 (inD ψ s.objs D)) (hfx : fixable i o' = false)
    (hv : ∀ k ∈ fp', inD ψ s.objs D k ∨ w.heap.size ≤ k)
    (ho : ∀ ok ids ψ' φ', (∀ k, okS C ψ s.objs w k → ok k) → ObjAt w1 0 ok ids ψ' φ' o' v' fp') :
    SimF C (ups ψ i fp') (ups φ i v') ⟨jkE D s.env, (i, o') :: jkO D s.objs⟩ a w1 ∧ Fp ψ (ups ψ i fp') s.objs ((i, o') :: jkO D s.objs) w D := by
  refine ⟨h.mod D i o' v' fp' hi hg hfx hv ho, fun j oj hj k hk => ?_⟩
  by_cases e : i = j
  · subst e
    rw [ups_self] at hk
    rcases hv k hk with h1 | h1
    · exact .inr (.inr h1)
    · exact .inl h1
  · rw [ups_ne _ _ (Ne.symm e)] at hk
    rw [lk_cons, if_neg e, lk_jkO] at hj
    by_cases e2 : j ∈ D
    · rw [if_pos e2] at hj; cases hj
    · rw [if_neg e2, Option.map_eq_some_iff] at hj
      obtain ⟨x, hx, _⟩ := hj
      exact .inr (.inl ⟨x, hx, hk⟩)
/-- A store into object i: its handles stay good. -/
theorem SimF.upd {C : Ctx} {ψ : Nat → List Nat} {φ : Nat → Value} {s : AS} {a : Act} {w w1 : World} (h : SimF C ψ φ s a w) (i : Nat) (o o' : Obj) (hi : lk i s.objs = some o) (hg : Ch w w1 (fun k => k ∈ ψ i)) (hsh : ∀ p, o.has p → o'.has p) (hfx : fixable i o' = fixable i o)
    (hat : ∀ p v, o.has p → At w (ψ i) (φ i) p v → At w1 (ψ i) (φ i) p v)
    (ho : ∀ ok ids, (∀ k, okS C ψ s.objs w k → ok k) → (∀ k, w.heap.size ≤ k → k < w1.heap.size → ok k) → Mv w w1 (idsS s.objs) ids ψ ψ φ φ → ObjAt w1 0 ok ids ψ φ o' (φ i) (ψ i)) :
    SimF C ψ φ ⟨s.env, (i, o') :: rm i s.objs⟩ a w1 := by
  have hlkb : ∀ j oj, j ≠ i → lk j ((i, o') :: rm i s.objs) = some oj → lk j s.objs = some oj := by
    intro j oj hne hj
    rwa [lk_cons, if_neg (Ne.symm hne), lk_rm, if_neg (Ne.symm hne)] at hj
  have hlkx : ∀ j oj, lk j ((i, o') :: rm i s.objs) = some oj → ∃ x, lk j s.objs = some x := by
    intro j oj hj
    by_cases e : j = i
    · exact ⟨o, e ▸ hi⟩
    · exact ⟨oj, hlkb j oj e hj⟩
  have hids : ∀ j p, idsS s.objs j p → idsS ((i, o') :: rm i s.objs) j p := by
    rintro j p ⟨oj, hj, hp⟩
    by_cases e : j = i
    · subst e
      rw [hi] at hj
      obtain rfl := Option.some.inj hj
      exact ⟨o', by rw [lk_cons, if_pos rfl], hsh p hp⟩
    · exact ⟨oj, by rw [lk_cons, if_neg (Ne.symm e), lk_rm, if_neg (Ne.symm e)]; exact hj, hp⟩
  have hoth : ∀ j oj, j ≠ i → lk j s.objs = some oj → ∀ k ∈ ψ j, w1.heap[k]? = w.heap[k]? := fun j oj hj hl k hk =>
    hg.block k (h.hp.lt hl hk).2 (fun hk' => hj (h.hp.disj j i oj o k hl hi hk hk'))
  have hmv : Mv w w1 (idsS s.objs) (idsS ((i, o') :: rm i s.objs)) ψ ψ φ φ := by
    refine ⟨hids, fun _ _ _ => rfl, fun j p v hjp ha => ?_⟩
    obtain ⟨oj, hj, hp⟩ := hjp
    by_cases e : j = i
    · subst e
      rw [hi] at hj
      obtain rfl := Option.some.inj hj
      exact hat p v hp ha
    · exact ha.move (hoth j oj e hj)
  have hblk : ∀ k, okS C ψ s.objs w k → w1.heap[k]? = w.heap[k]? := fun k hk => hg.block k hk.2.1 (hk.2.2 i o hi)
  have hok : ∀ k, okS C ψ s.objs w k → okS C ψ ((i, o') :: rm i s.objs) w1 k := fun k ⟨k1, k2, k3⟩ => ⟨k1, Nat.lt_of_lt_of_le k2 hg.size, fun j oj hj => let ⟨x, hx⟩ := hlkx j oj hj; k3 j x hx⟩
  have hbelow : Ch C.w0 w1 C.bor := by
    refine h.hp.below.trans hg (fun k hk hk' => ?_)
    rcases (h.hp.lt hi hk').1 with h1 | h1
    · omega
    · exact h1
  refine ⟨h.defers, h.size, ⟨hbelow, fun j o2 hj => ?_, fun j j' oj oj' k hj hj' hk hk' => ?_, fun j oj k hj hk => let ⟨x, hx⟩ := hlkx j oj hj; h.hp.own j x k hx hk, fun j u oj hu hj hf => by
    by_cases e : j = i
    · subst e
      rw [lk_cons, if_pos rfl] at hj
      obtain rfl := Option.some.inj hj
      exact h.hp.fix j u o hu hi (by rw [← hfx]; exact hf)
    · exact h.hp.fix j u oj hu (hlkb j _ e hj) hf⟩, fun t av ht => ⟨(h.env t av ht).1, (h.env t av ht).2.move hblk hok hmv⟩⟩
  · by_cases e : j = i
    · subst e
      rw [lk_cons, if_pos rfl] at hj
      obtain rfl := Option.some.inj hj
      exact ho _ _ hok (fun k h1 h2 => ⟨.inr (.inl (Nat.le_trans h.hp.below.size h1)), h2, fun j oj hj hkj => by
        obtain ⟨x, hx⟩ := hlkx j oj hj
        have := (h.hp.lt hx hkj).2
        omega⟩) hmv
    · have hx := hlkb j o2 e hj
      exact (h.hp.objs j o2 hx).move (hoth j o2 e hx) hblk hok hmv
  · obtain ⟨x, hx⟩ := hlkx j oj hj
    obtain ⟨x', hx'⟩ := hlkx j' oj' hj'
    exact h.hp.disj j j' x x' k hx hx' hk hk'
end Go.Proofs.YtmiijpobhajfmaaGreat.J
namespace Go.Proofs.YtmiijpobhajfmaaGreat.J
open Go Go.RowKit
set_option linter.unusedVariables false
set_option linter.unusedSimpArgs false

/-! ### 13. One cell -/
def AV.one : AV → Bool
  | .val v => v.oneCell'
  | .sl _ _ => true
  | .ref _ => true
  | .own _ _ => true
  | .box _ _ => true
  | .oref _ _ _ _ _ => true
  | .clo _ _ _ => true
  | .part _ _ _ _ _ => true
  | _ => false
def AV.oneL : List AV → Bool
  | [] => true
  | a :: r => a.one && AV.oneL r
theorem oneL_mem : ∀ (cs : List AV), AV.oneL cs = true → ∀ a ∈ cs, a.one = true
  | [], _, a, h => by cases h
  | b :: r, h, a, ha => by
    simp only [AV.oneL, Bool.and_eq_true] at h
    rcases List.mem_cons.1 ha with rfl | ha
    · exact h.1
    · exact oneL_mem r h.2 a ha
def AV.isRO : AV → Bool
  | .val _ => true
  | .sl _ _ => true
  | .ref _ => true
  | _ => false
def AV.roL : List AV → Bool
  | [] => true
  | a :: r => a.isRO && AV.roL r
theorem roL_mem : ∀ (cs : List AV), AV.roL cs = true → ∀ a ∈ cs, a.isRO = true
  | [], _, a, h => by cases h
  | b :: r, h, a, ha => by
    simp only [AV.roL, Bool.and_eq_true] at h
    rcases List.mem_cons.1 ha with rfl | ha
    · exact h.1
    · exact roL_mem r h.2 a ha
theorem RO.one {w : World} {ok : Nat → Prop} {a : AV} {v : Value} (h : RO w ok a v) (ho : a.one = true) : v.oneCell' = true := by
  cases h with
  | val v => exact ho
  | slNil => rfl
  | sl => rfl
  | ref => rfl
  | clo => rfl
  | _ => cases ho
theorem At.one {w : World} {B : Nat} {ok : Nat → Prop} {t : Tr} {v u : Value} {fp : List Nat} {S : List Nat} (h : TreeAt w B ok t v fp) {p : List Nat} {t' : Tr} (hp : t.get p = some t') (ha : At w S v p u) : u.oneCell' = true := by
  obtain ⟨v', fp', h1, h2, h3⟩ := TreeAt.get h hp
  have e : u = v' := by
    have h4 := At.sub (S' := S ++ fp) (fun k hk => List.mem_append_left _ hk) ha
    have h5 := At.sub (S' := S ++ fp) (fun k hk => List.mem_append_right _ hk) h1
    exact h4.same h5
  obtain ⟨A, n, cap, e2⟩ := h2.slice
  rw [e, e2]
  rfl
theorem Rep.one {w : World} {ok : Nat → Prop} {ids : Nat → List Nat → Prop} {ψ : Nat → List Nat} {φ : Nat → Value} {a : AV} {v : Value} (h : Rep w ok ids ψ φ a v) (ho : a.one = true) (hφ : ∀ i p u, ids i p → At w (ψ i) (φ i) p u → u.oneCell' = true) : v.oneCell' = true := by
  cases h with
  | ro h => exact h.one ho
  | own i p v h ha => exact hφ i p v h ha
  | box => rfl
  | oref => rfl
  | agg => cases ho
  | tup => cases ho
  | clo => rfl
  | part => rfl
theorem Rep.ro_of {w : World} {ok : Nat → Prop} {ids : Nat → List Nat → Prop} {ψ : Nat → List Nat} {φ : Nat → Value} {a : AV} {v : Value} (h : Rep w ok ids ψ φ a v) (ho : a.isRO = true) : RO w ok a v := by
  cases h with
  | ro h => exact h
  | _ => cases ho
theorem cells_one {v : Value} (h : v.oneCell' = true) : v.cells = #[v] := by
  cases v <;> first | rfl | cases h

section
variable {P : Program} {C : Ctx} {s : AS} {o : Oper}
theorem SimF.one {ψ : Nat → List Nat} {φ : Nat → Value} {a : Act} {w : World} (h : SimF C ψ φ s a w) {av : AV} {v : Value} (hr : Rep w (okS C ψ s.objs w) (idsS s.objs) ψ φ av v) (ho : av.one = true) : v.oneCell' = true :=
  hr.one ho (fun i p u ⟨oi, hi, hp⟩ ha => by
    have hx := h.hp.objs i oi hi
    cases oi with
    | tree t => obtain ⟨t', ht⟩ := hp; exact At.one hx ht ha
    | mp ks =>
      obtain rfl : p = [] := hp
      obtain ⟨b, es, clk, e, _⟩ := hx
      have : u = φ i := ha
      rw [this, e]
      rfl
    | box T cs =>
      obtain rfl : p = [] := hp
      obtain ⟨b, cur, e, _⟩ := hx
      have : u = φ i := ha
      rw [this, e]
      rfl)

/-- An operation that yields a value, in a grown world. -/
theorem OpD.new {d : Nat} {ob : Obj} {av : AV} (hd : o.dst = some d) (hn : d < C.n) (hi : lk d s.objs = none) (hh : ob.has [])
    (h : ∀ ψ φ a w, SimF C ψ φ s a w → ∃ v w1 fp, (execOp a.eval o).run P w = .ok (.value v) w1 ∧ Below w.heap.size w w1 ∧ (∀ k ∈ fp, w.heap.size ≤ k) ∧
      (∀ ok ids ψ' φ', (∀ k, okS C ψ s.objs w k → ok k) → Mv w w1 (idsS s.objs) ids ψ ψ' φ φ' → ObjAt w1 0 ok ids ψ' φ' ob v fp) ∧
      (∀ ok ids ψ' φ', ids d [] → φ' d = v → Rep w1 ok ids ψ' φ' av v)) : OpD P C [] o s ⟨(d, av) :: s.env, (d, ob) :: s.objs⟩ := by
  intro ψ φ a w hF
  obtain ⟨v, w1, fp, hr, hb, hv, ho, hrep⟩ := h ψ φ a w hF
  unfold Oper.wp
  rw [hr, Oper.upon_value, hd]
  have h1 := hF.new hb d ob v fp hi (nofix (fixable_lt (Nat.lt_of_lt_of_le hn C.hn6))) hv ho
  refine ⟨_, _, h1.put d av v hn (hrep _ _ _ _ ⟨ob, by rw [lk_cons, if_pos rfl], hh⟩ (ups_self _ _ _)), .of_below hb, fun j oj hj k hk => ?_⟩
  by_cases e : d = j
  · subst e
    rw [ups_self] at hk
    exact .inl (hv k hk)
  · rw [ups_ne _ _ (Ne.symm e)] at hk
    rw [lk_cons, if_neg e] at hj
    exact .inr (.inl ⟨oj, hj, hk⟩)
/-- The same, with a name for the object. -/
theorem OpD.newI {d i : Nat} {ob : Obj} {av : AV} (hd : o.dst = some d) (hn : d < C.n) (hi : lk i s.objs = none) (hfx : fixable i ob = true → C.fix i = none) (hh : ob.has [])
    (h : ∀ ψ φ a w, SimF C ψ φ s a w → ∃ v w1 fp, (execOp a.eval o).run P w = .ok (.value v) w1 ∧ Below w.heap.size w w1 ∧ (∀ k ∈ fp, w.heap.size ≤ k) ∧
      (∀ ok ids ψ' φ', (∀ k, okS C ψ s.objs w k → ok k) → Mv w w1 (idsS s.objs) ids ψ ψ' φ φ' → ObjAt w1 0 ok ids ψ' φ' ob v fp) ∧
      (∀ ok ids ψ' φ', ids i [] → φ' i = v → Rep w1 ok ids ψ' φ' av v)) : OpD P C [] o s ⟨(d, av) :: s.env, (i, ob) :: s.objs⟩ := by
  intro ψ φ a w hF
  obtain ⟨v, w1, fp, hr, hb, hv, ho, hrep⟩ := h ψ φ a w hF
  unfold Oper.wp
  rw [hr, Oper.upon_value, hd]
  have h1 := hF.new hb i ob v fp hi hfx hv ho
  refine ⟨_, _, h1.put d av v hn (hrep _ _ _ _ ⟨ob, by rw [lk_cons, if_pos rfl], hh⟩ (ups_self _ _ _)), .of_below hb, fun j oj hj k hk => ?_⟩
  by_cases e : i = j
  · subst e
    rw [ups_self] at hk
    exact .inl (hv k hk)
  · rw [ups_ne _ _ (Ne.symm e)] at hk
    rw [lk_cons, if_neg e] at hj
    exact .inr (.inl ⟨oj, hj, hk⟩)
theorem below_alloc (w : World) (ob : Go.Obj) : Below w.heap.size w (w.alloc ob) := (Below.refl _ _).alloc (Nat.le_refl _) ob

/-! ### 14. Variables -/
theorem run_newRow (e : TypeId) (cells : Array Value) (w : World) : (newRow e cells).run P w = .ok ⟨w.heap.size, 0, none⟩ (w.alloc (.cells cells e)) := by
  simp [newRow, run_newObj_alloc]
theorem objAt_box {w : World} {B : Nat} {T : Nat} {cs : List AV} {vs : Array Value} {ok0 : Nat → Prop} {ids0 : Nat → List Nat → Prop} {ψ0 : Nat → List Nat} {φ0 : Nat → Value} (hB : B ≤ w.heap.size) (hs : vs.size = cs.length) (h1 : ∀ u ∈ vs.toList, u.oneCell' = true)
    (hr : ∀ (j : Nat) a u, cs[j]? = some a → vs[j]? = some u → Rep w ok0 ids0 ψ0 φ0 a u) (hlt : ∀ k, ok0 k → k < w.heap.size) :
    ∀ ok ids ψ' φ', (∀ k, ok0 k → ok k) → Mv w (w.alloc (.cells vs T)) ids0 ids ψ0 ψ' φ0 φ' → ObjAt (w.alloc (.cells vs T)) B ok ids ψ' φ' (.box T cs) (.pointer (some ⟨w.heap.size, 0, none⟩)) [w.heap.size] := fun ok ids ψ' φ' h2 h3 =>
  ⟨w.heap.size, vs, rfl, rfl, hB, heap_alloc_new w _, hs, h1, fun j a u ha hu => (hr j a u ha hu).move (fun k hk => heap_alloc_old w _ k (hlt k hk)) h2 h3⟩
theorem op_box_agg {T d : Nat} {x : Operand} {cs : List AV} (ho : o.op = .box T x) (hd : o.dst = some d) (hn : d < C.n) (hi : lk d s.objs = none) (hx : ev s x = some (.agg cs)) (h1 : AV.oneL cs = true) : OpD P C [] o s ⟨(d, .box d 0) :: s.env, (d, .box T cs) :: s.objs⟩ :=
  OpD.new hd hn hi rfl (fun ψ φ a w hF => by
    obtain ⟨vs, e, hs, hr⟩ := (hF.ev hx).agg_inv
    refine ⟨.pointer (some ⟨w.heap.size, 0, none⟩), w.alloc (.cells vs T), [w.heap.size], by simp [execOp, ho, Instr.box, newVar, run_newRow, e, Value.cells], below_alloc _ _, fun k hk => by simp at hk; omega,
      objAt_box (Nat.zero_le _) hs (fun u hu => ?_) hr (fun k hk => hk.2.1), fun ok ids ψ' φ' h2 h3 => .box d 0 w.heap.size h2 h3⟩
    obtain ⟨j, hj, hju⟩ := List.mem_iff_getElem.1 hu
    have hj' : j < vs.size := by simpa using hj
    have ha : cs[j]? = some cs[j] := List.getElem?_eq_getElem (by omega)
    exact hF.one (hr j _ u ha (by rw [Array.getElem?_eq_getElem hj']; simpa using hju)) (oneL_mem cs h1 _ (List.getElem_mem _)))
theorem op_box_one {T d : Nat} {x : Operand} {av : AV} (ho : o.op = .box T x) (hd : o.dst = some d) (hn : d < C.n) (hi : lk d s.objs = none) (hx : ev s x = some av) (h1 : av.one = true) : OpD P C [] o s ⟨(d, .box d 0) :: s.env, (d, .box T [av]) :: s.objs⟩ :=
  OpD.new hd hn hi rfl (fun ψ φ a w hF => by
    have hr := hF.ev hx
    have ho1 := hF.one hr h1
    refine ⟨.pointer (some ⟨w.heap.size, 0, none⟩), w.alloc (.cells #[a.eval x] T), [w.heap.size], by simp [execOp, ho, Instr.box, newVar, run_newRow, cells_one ho1], below_alloc _ _, fun k hk => by simp at hk; omega,
      objAt_box (Nat.zero_le _) rfl (fun u hu => ?_) (fun j b u hb hu => ?_) (fun k hk => hk.2.1), fun ok ids ψ' φ' h2 h3 => .box d 0 w.heap.size h2 h3⟩
    · obtain rfl : u = a.eval x := by simpa using hu
      exact ho1
    · cases j with
      | zero =>
        obtain rfl : av = b := by simpa using hb
        obtain rfl : a.eval x = u := by simpa using hu
        exact hr
      | succ j => simp at hb)
/-- The cells of a type's zero value. -/
def zeroK (P : Program) (T : TypeId) : Option (List Value) := (P.info? T).bind fun i => i.zero.map fun z => z.cells.toList
theorem run_zeroValue {T : Nat} {zs : List Value} (h : zeroK P T = some zs) : ∃ z, z.cells.toList = zs ∧ ∀ w, (zeroValue T).run P w = .ok z w := by
  unfold zeroK at h
  cases hi : P.info? T with
  | none => rw [hi] at h; cases h
  | some i =>
    rw [hi, Option.bind_some] at h
    cases hz : i.zero with
    | none => rw [hz] at h; cases h
    | some z =>
      rw [hz, Option.map_some, Option.some.injEq] at h
      exact ⟨z, h, fun w => by simp [zeroValue, typeInfo, hi, hz]⟩
theorem op_allocI {T d : Nat} {zs : List Value} (i : Nat) (ho : o.op = .alloc T) (hz : zeroK P T = some zs) (h1 : zs.all (·.oneCell') = true) (hd : o.dst = some d) (hn : d < C.n) (hi : lk i s.objs = none) (hfx : C.fix i = none) :
    OpD P C [] o s ⟨(d, .box i 0) :: s.env, (i, .box T (zs.map .val)) :: s.objs⟩ :=
  OpD.newI hd hn hi (fun _ => hfx) rfl (fun ψ φ a w hF => by
    obtain ⟨z, hzs, hz⟩ := run_zeroValue hz
    refine ⟨.pointer (some ⟨w.heap.size, 0, none⟩), w.alloc (.cells z.cells T), [w.heap.size], by simp [execOp, ho, Instr.alloc, hz, newVar, run_newRow], below_alloc _ _, fun k hk => by simp at hk; omega,
      objAt_box (ok0 := okS C ψ s.objs w) (ids0 := idsS s.objs) (ψ0 := ψ) (φ0 := φ) (Nat.zero_le _) (by rw [List.length_map, ← hzs, Array.length_toList]) (fun u hu => ?_) (fun j b u hb hu => ?_) (fun k hk => hk.2.1), fun ok ids ψ' φ' h2 h3 => .box i 0 w.heap.size h2 h3⟩
    · rw [hzs] at hu
      exact List.all_eq_true.1 h1 u hu
    · rw [← hzs, List.getElem?_map, Option.map_eq_some_iff] at hb
      obtain ⟨v, hv, rfl⟩ := hb
      rw [Array.getElem?_toList, hu] at hv
      obtain rfl := Option.some.inj hv
      exact .ro (.val u))
theorem op_alloc {T d : Nat} {zs : List Value} (ho : o.op = .alloc T) (hz : zeroK P T = some zs) (h1 : zs.all (·.oneCell') = true) (hd : o.dst = some d) (hn : d < C.n) (hi : lk d s.objs = none) :
    OpD P C [] o s ⟨(d, .box d 0) :: s.env, (d, .box T (zs.map .val)) :: s.objs⟩ :=
  OpD.new hd hn hi rfl (fun ψ φ a w hF => by
    obtain ⟨z, hzs, hz⟩ := run_zeroValue hz
    refine ⟨.pointer (some ⟨w.heap.size, 0, none⟩), w.alloc (.cells z.cells T), [w.heap.size], by simp [execOp, ho, Instr.alloc, hz, newVar, run_newRow], below_alloc _ _, fun k hk => by simp at hk; omega,
      objAt_box (ok0 := okS C ψ s.objs w) (ids0 := idsS s.objs) (ψ0 := ψ) (φ0 := φ) (Nat.zero_le _) (by rw [List.length_map, ← hzs, Array.length_toList]) (fun u hu => ?_) (fun j b u hb hu => ?_) (fun k hk => hk.2.1), fun ok ids ψ' φ' h2 h3 => .box d 0 w.heap.size h2 h3⟩
    · rw [hzs] at hu
      exact List.all_eq_true.1 h1 u hu
    · rw [← hzs, List.getElem?_map, Option.map_eq_some_iff] at hb
      obtain ⟨v, hv, rfl⟩ := hb
      rw [Array.getElem?_toList, hu] at hv
      obtain rfl := Option.some.inj hv
      exact .ro (.val u))

/-! ### 15. Stores -/
theorem OpD.upd {i : Nat} {ob ob' : Obj} (hd : o.dst = none) (hi : lk i s.objs = some ob) (hsh : ∀ p, ob.has p → ob'.has p) (hfx : fixable i ob' = fixable i ob)
    (h : ∀ ψ φ a w, SimF C ψ φ s a w → ∃ w1, (execOp a.eval o).run P w = .ok .skip w1 ∧ Ch w w1 (fun k => k ∈ ψ i) ∧ (∀ p v, ob.has p → At w (ψ i) (φ i) p v → At w1 (ψ i) (φ i) p v) ∧
      (∀ ok ids, (∀ k, okS C ψ s.objs w k → ok k) → Mv w w1 (idsS s.objs) ids ψ ψ φ φ → ObjAt w1 0 ok ids ψ φ ob' (φ i) (ψ i))) :
    OpD P C [i] o s ⟨s.env, (i, ob') :: rm i s.objs⟩ := by
  intro ψ φ a w hF
  obtain ⟨w1, hr, hg, hat, ho⟩ := h ψ φ a w hF
  unfold Oper.wp
  rw [hr, Oper.upon_skip, hd]
  refine ⟨ψ, φ, hF.upd i ob ob' hi hg hsh hfx hat (fun ok ids h1 _ h2 => ho ok ids h1 h2), ⟨hg.os, hg.tape, hg.output, hg.size, fun k hk hn => hg.block k hk (fun hk' => hn ⟨i, ob, by simp, hi, hk'⟩)⟩, fun j oj hj k hk => ?_⟩
  by_cases e : i = j
  · subst e
    exact .inr (.inl ⟨ob, hi, hk⟩)
  · rw [lk_cons, if_neg e, lk_rm, if_neg e] at hj
    exact .inr (.inl ⟨oj, hj, hk⟩)
theorem ch_setRow (w : World) (g : Nat) (cs : Array Value) {S : List Nat} (h : g ∈ S) : Ch w (w.setRow g cs) (fun k => k ∈ S) := ⟨rfl, rfl, rfl, by simp, fun k _ hk => setRow_other w g k cs (fun e => hk (e ▸ h))⟩
theorem grown_setRow (w : World) (g : Nat) (cs : Array Value) : w.grownBy (w.setRow g cs) (some g) := ⟨rfl, rfl, rfl, by simp, fun k _ hk => setRow_other w g k cs (fun e => hk (by rw [e]))⟩
theorem run_storeAt {T g off : Nat} {t : TypeId} {v : Value} {us : List Value} {cur : Array Value} {w : World} (hT : (P.info? T).map (·.size) = some us.length) (hv : v.cells.toList = us) (h1 : ∀ u ∈ us, u.oneCell' = true)
    (hg : w.heap[g]? = some (.cells cur t (0, 0))) (hl : off + us.length ≤ cur.size) :
    (Instr.storeAt T (.pointer (some ⟨g, off, none⟩)) v).run P w = .ok () (w.setRow g (cur.toList.take off ++ us ++ cur.toList.drop (off + us.length)).toArray) := by
  have hs : v.cells.size = us.length := by rw [← Array.length_toList, hv]
  have := run_storeCells_at P g off t us 0 cur w hg (by simpa using hl) h1
  simp only [Nat.add_zero] at this
  simp [Instr.storeAt, Instr.sureAddr, storeVar, run_sizeOf' hT, hs, hv, this]
theorem splice_get {α : Type} (l us : List α) (off j : Nat) (hl : off + us.length ≤ l.length) : (l.take off ++ us ++ l.drop (off + us.length))[j]? = if j < off then l[j]? else if j < off + us.length then us[j - off]? else l[j]? := by
  have h1 : (l.take off).length = off := by rw [List.length_take]; omega
  by_cases a : j < off
  · rw [if_pos a, List.append_assoc, List.getElem?_append_left (by omega), List.getElem?_take, if_pos a]
  · rw [if_neg a]
    by_cases b : j < off + us.length
    · rw [if_pos b, List.getElem?_append_left (by rw [List.length_append]; omega), List.getElem?_append_right (by omega), h1]
    · rw [if_neg b, List.getElem?_append_right (by rw [List.length_append]; omega), List.getElem?_drop, List.length_append, h1]
      congr 1
      omega
theorem mem_splice {α : Type} {l us : List α} {off : Nat} {u : α} (h : u ∈ l.take off ++ us ++ l.drop (off + us.length)) : u ∈ l ∨ u ∈ us := by
  rcases List.mem_append.1 h with h | h
  · rcases List.mem_append.1 h with h | h
    · exact .inl (List.mem_of_mem_take h)
    · exact .inr h
  · exact .inl (List.mem_of_mem_drop h)
/-- Cells are stored into a variable. -/
theorem op_store_box_cells {T T0 i off : Nat} {x y : Operand} {cs ns : List AV} (ho : o.op = .store T x y) (hd : o.dst = none) (hT : (P.info? T).map (·.size) = some ns.length) (hx : ev s x = some (.box i off)) (hi : lk i s.objs = some (.box T0 cs))
    (hl : off + ns.length ≤ cs.length) (hy : ∀ ψ φ a w, SimF C ψ φ s a w → ∃ us : List Value, (a.eval y).cells.toList = us ∧ us.length = ns.length ∧ (∀ u ∈ us, u.oneCell' = true) ∧ ∀ (j : Nat) av u, ns[j]? = some av → us[j]? = some u → Rep w (okS C ψ s.objs w) (idsS s.objs) ψ φ av u) :
    OpD P C [i] o s ⟨s.env, (i, .box T0 (cs.take off ++ ns ++ cs.drop (off + ns.length))) :: rm i s.objs⟩ :=
  OpD.upd hd hi (fun _ h => h) rfl (fun ψ φ a w hF => by
    obtain ⟨g, e1, e2, e3⟩ := (hF.ev hx).box_inv
    obtain ⟨us, hus, hul, hu1, hur⟩ := hy ψ φ a w hF
    obtain ⟨b, cur, eb, efp, hB, hc, hs, hone, hr⟩ := hF.hp.objs i _ hi
    rw [e1] at eb
    simp only [Value.pointer.injEq, Option.some.injEq, Addr.mk.injEq, and_true] at eb
    subst eb
    have hcl : cur.toList.length = cs.length := by simpa using hs
    have hl' : off + us.length ≤ cur.toList.length := by omega
    have hrun := run_storeAt (P := P) (T := T) (v := a.eval y) (by rw [hT, hul]) hus hu1 hc (by have := Array.length_toList (xs := cur); omega)
    refine ⟨w.setRow g (cur.toList.take off ++ us ++ cur.toList.drop (off + us.length)).toArray, by simp only [execOp, ho, e2, Sem.run_bind, hrun, Result.andThen_ok, Sem.run_pure], ch_setRow w g _ (by rw [efp]; simp), fun p v hp ha => ?_, fun ok ids h2 h3 => ?_⟩
    · obtain rfl : p = [] := hp
      exact ha
    rw [e1]
    refine ⟨g, _, rfl, efp, hB, setRow_heap w g cur _ T0 (0, 0) hc, by simp; omega, fun u hu => ?_, fun j av u ha hu => ?_⟩
    · rcases mem_splice (by simpa using hu) with h | h
      · exact hone u h
      · exact hu1 u h
    · have hm : ∀ k, okS C ψ s.objs w k → (w.setRow g (cur.toList.take off ++ us ++ cur.toList.drop (off + us.length)).toArray).heap[k]? = w.heap[k]? := fun k hk => setRow_other w g k _ (by rintro rfl; exact hk.2.2 i _ hi (by rw [efp]; simp))
      rw [List.getElem?_toArray, splice_get _ _ _ _ hl'] at hu
      rw [splice_get _ _ _ _ hl] at ha
      rw [hul] at hu
      by_cases c1 : j < off
      · rw [if_pos c1] at ha hu
        exact (hr j av u ha (by rw [← Array.getElem?_toList]; exact hu)).move hm h2 h3
      · rw [if_neg c1] at ha hu
        by_cases c2 : j < off + ns.length
        · rw [if_pos c2] at ha hu
          exact (hur _ av u ha hu).move hm h2 h3
        · rw [if_neg c2] at ha hu
          exact (hr j av u ha (by rw [← Array.getElem?_toList]; exact hu)).move hm h2 h3)
theorem op_store_box {T T0 i off : Nat} {x y : Operand} {cs : List AV} {av : AV} (ho : o.op = .store T x y) (hd : o.dst = none) (hT : (P.info? T).map (·.size) = some 1) (hx : ev s x = some (.box i off)) (hi : lk i s.objs = some (.box T0 cs))
    (hl : off + 1 ≤ cs.length) (hy : ev s y = some av) (h1 : av.one = true) : OpD P C [i] o s ⟨s.env, (i, .box T0 (cs.take off ++ [av] ++ cs.drop (off + 1))) :: rm i s.objs⟩ :=
  op_store_box_cells (ns := [av]) ho hd hT hx hi hl (fun ψ φ a w hF => by
    have hr := hF.ev hy
    have hone := hF.one hr h1
    refine ⟨[a.eval y], by rw [cells_one hone], rfl, fun u hu => by rw [List.mem_singleton.1 hu]; exact hone, fun j b u hb hu => ?_⟩
    cases j with
    | zero =>
      obtain rfl : av = b := by simpa using hb
      obtain rfl : a.eval y = u := by simpa using hu
      exact hr
    | succ j => simp at hb)
theorem agg_cells {ψ : Nat → List Nat} {φ : Nat → Value} {a : Act} {w : World} (hF : SimF C ψ φ s a w) {y : Operand} {ns : List AV} (hy : ev s y = some (.agg ns)) (h1 : AV.oneL ns = true) : ∃ us : List Value, (a.eval y).cells.toList = us ∧ us.length = ns.length ∧ (∀ u ∈ us, u.oneCell' = true) ∧ ∀ (j : Nat) av u, ns[j]? = some av → us[j]? = some u → Rep w (okS C ψ s.objs w) (idsS s.objs) ψ φ av u := by
  obtain ⟨vs, e, hs, hr⟩ := (hF.ev hy).agg_inv
  refine ⟨vs.toList, by rw [e]; rfl, by simpa using hs, fun u hu => ?_, fun j av u ha hu => hr j av u ha (by rw [← Array.getElem?_toList]; exact hu)⟩
  obtain ⟨j, hj, hju⟩ := List.mem_iff_getElem.1 hu
  have hj' : j < vs.size := by simpa using hj
  exact hF.one (hr j _ u (List.getElem?_eq_getElem (by omega)) (by rw [Array.getElem?_eq_getElem hj']; simpa using hju)) (oneL_mem ns h1 _ (List.getElem_mem _))
theorem op_store_box_agg {T T0 i off : Nat} {x y : Operand} {cs ns : List AV} (ho : o.op = .store T x y) (hd : o.dst = none) (hT : (P.info? T).map (·.size) = some ns.length) (hx : ev s x = some (.box i off)) (hi : lk i s.objs = some (.box T0 cs))
    (hl : off + ns.length ≤ cs.length) (hy : ev s y = some (.agg ns)) (h1 : AV.oneL ns = true) : OpD P C [i] o s ⟨s.env, (i, .box T0 (cs.take off ++ ns ++ cs.drop (off + ns.length))) :: rm i s.objs⟩ :=
  op_store_box_cells ho hd hT hx hi hl (fun ψ φ a w hF => agg_cells hF hy h1)
end
end Go.Proofs.YtmiijpobhajfmaaGreat.J
namespace Go.Proofs.YtmiijpobhajfmaaGreat.J
open Go Go.RowKit
set_option linter.unusedVariables false
set_option linter.unusedSimpArgs false

/-! ### 16. The cells of a read-only row, as a list -/
def flatU (sz : Nat) (us : Nat → Nat → Value) : Nat → List (List AV) → List Value
  | _, [] => []
  | j, _ :: r => (List.range sz).map (us j) ++ flatU sz us (j + 1) r
theorem flatU_len (sz : Nat) (us : Nat → Nat → Value) : ∀ (xs : List (List AV)) (j : Nat), (flatU sz us j xs).length = xs.length * sz
  | [], _ => by simp [flatU]
  | _ :: r, j => by simp [flatU, flatU_len sz us r (j + 1), Nat.add_mul, Nat.add_comm]
theorem flatU_get (sz : Nat) (us : Nat → Nat → Value) : ∀ (xs : List (List AV)) (j0 j c : Nat), j < xs.length → c < sz → (flatU sz us j0 xs)[j * sz + c]? = some (us (j0 + j) c)
  | [], _, _, _, h, _ => by simp at h
  | _ :: r, j0, 0, c, h, hc => by
    simp only [flatU]
    rw [List.getElem?_append_left (by simpa using hc)]
    simp [hc]
  | _ :: r, j0, j + 1, c, h, hc => by
    simp only [flatU]
    rw [List.getElem?_append_right (by simp [Nat.add_mul]; omega)]
    have e : (j + 1) * sz + c - ((List.range sz).map (us j0)).length = j * sz + c := by
      simp [Nat.add_mul]; omega
    rw [e, flatU_get sz us r (j0 + 1) j c (by simpa using h) hc]
    congr 2
    omega
theorem flatU_inv (sz : Nat) (us : Nat → Nat → Value) : ∀ (xs : List (List AV)) (j0 k : Nat) (u : Value), (flatU sz us j0 xs)[k]? = some u → ∃ j c, j < xs.length ∧ c < sz ∧ k = j * sz + c ∧ u = us (j0 + j) c
  | [], _, _, _, h => by simp [flatU] at h
  | _ :: r, j0, k, u, h => by
    simp only [flatU] at h
    by_cases hk : k < sz
    · rw [List.getElem?_append_left (by simpa using hk)] at h
      simp only [List.getElem?_map, List.getElem?_range hk, Option.map_some, Option.some.injEq] at h
      exact ⟨0, k, by simp, hk, by simp, h.symm⟩
    · rw [List.getElem?_append_right (by simp; omega)] at h
      obtain ⟨j, c, h1, h2, h3, h4⟩ := flatU_inv sz us r (j0 + 1) _ u h
      refine ⟨j + 1, c, by simpa using h1, h2, ?_, by rw [h4]; congr 1; omega⟩
      simp at h3
      rw [Nat.add_mul]
      omega
/-- A read-only row as the machine's append sees it. -/
theorem RO.flat {w : World} {ok : Nat → Prop} {sz n cap : Nat} {xs : List (List AV)} {ad : Addr} (h : RO w ok (.sl sz xs) (.slice (some ad) n cap)) :
    n = xs.length ∧ xs.length ≤ cap ∧ cap ≤ maxLen ∧ ok ad.block ∧ ∃ vs, Flat w ok sz xs vs ∧ ∀ (k : Nat) u, vs[k]? = some u → w.cell? (ad.add k) = some u := by
  cases h with
  | sl _ _ _ _ us hn hc hok hsz hcell h =>
    refine ⟨rfl, hn, hc, hok, flatU sz us 0 xs, ⟨flatU_len sz us xs 0, fun u hu => ?_, hsz, fun j x c a hx ha => ?_⟩, fun k u hu => ?_⟩
    · obtain ⟨k, hk, hku⟩ := List.mem_iff_getElem.1 hu
      obtain ⟨j, c, h1, h2, h3, h4⟩ := flatU_inv sz us xs 0 k u (by rw [List.getElem?_eq_getElem hk, hku])
      have hx : xs[j]? = some xs[j] := List.getElem?_eq_getElem h1
      have hl := hsz _ (List.getElem_mem h1)
      have ha : xs[j][c]? = some (xs[j][c]'(by omega)) := List.getElem?_eq_getElem (by omega)
      rw [h4, Nat.zero_add]
      exact (hcell j _ c _ hx ha).2
    · have h1 : j < xs.length := (List.getElem?_eq_some_iff.1 hx).1
      have h2 : c < sz := by
        have := (List.getElem?_eq_some_iff.1 ha).1
        rw [hsz x (List.mem_of_getElem? hx)] at this
        exact this
      refine ⟨us j c, ?_, h j x c a hx ha⟩
      rw [flatU_get sz us xs 0 j c h1 h2, Nat.zero_add]
    · obtain ⟨j, c, h1, h2, h3, h4⟩ := flatU_inv sz us xs 0 k u hu
      have hx : xs[j]? = some xs[j] := List.getElem?_eq_getElem h1
      have hl := hsz _ (List.getElem_mem h1)
      have ha : xs[j][c]? = some (xs[j][c]'(by omega)) := List.getElem?_eq_getElem (by omega)
      rw [h3, h4, Nat.zero_add]
      exact (hcell j _ c _ hx ha).1
/-- A row of the call's own, read. -/
theorem own_ro {w : World} {B e sz : Nat} {v : Value} {xs : List (List AV)} {vs : List Value} {ok ok' : Nat → Prop} (ho : w.ownsRow B e sz v xs.length vs) (hf : Flat w ok sz xs vs) (hk : ∀ k, ok k → ok' k) (hb : ∀ k, blk v = some k → ok' k) : RO w ok' (.sl sz xs) v := by
  rcases ho.2 with ⟨rfl, h0⟩ | ⟨g, cap, cur, rfl, hB, hg, h1, h2, _⟩
  · have : xs = [] := List.eq_nil_of_length_eq_zero h0
    subst this
    exact .slNil sz
  · have hc := ho.cells (g := g) rfl
    refine .sl sz xs ⟨g, 0, none⟩ cap (fun j c => vs.getD (j * sz + c) undef) h1 h2 (hb g rfl) hf.sz_ (fun j x c a hx ha => ?_) (fun j x c a hx ha => ?_)
    · obtain ⟨u, hu, _⟩ := hf.at_ j x c a hx ha
      have e : vs.getD (j * sz + c) undef = u := by rw [List.getD_eq_getElem?_getD, hu]; rfl
      rw [e]
      exact ⟨hc _ u hu, hf.one u (List.mem_of_getElem? hu)⟩
    · obtain ⟨u, hu, hr⟩ := hf.at_ j x c a hx ha
      have e : vs.getD (j * sz + c) undef = u := by rw [List.getD_eq_getElem?_getD, hu]; rfl
      rw [e]
      exact hr.move (fun _ _ => rfl) hk

/-! ### 17. Slice types -/
def slK (P : Program) (T : TypeId) : Option (TypeId × Nat × Nat) :=
  match P.underlying T with
  | some (.slice E) => match P.info? E with
    | some i => match i.zero with
      | some z => if z.cells.size = i.size ∧ 0 < i.size then some (E, i.size, i.bytes) else none
      | none => none
    | none => none
  | _ => none
theorem slK_spec {P : Program} {T E sz by_ : Nat} (h : slK P T = some (E, sz, by_)) : ∃ i z, P.underlying T = some (.slice E) ∧ P.info? E = some i ∧ i.zero = some z ∧ i.size = sz ∧ i.bytes = by_ ∧ z.cells.size = sz ∧ 0 < sz := by
  unfold slK at h
  split at h
  · rename_i E' hu
    split at h
    · rename_i i hi
      split at h
      · rename_i z hz
        split at h
        · rename_i hc
          simp only [Option.some.injEq, Prod.mk.injEq] at h
          obtain ⟨rfl, rfl, rfl⟩ := h
          exact ⟨i, z, hu, hi, hz, rfl, rfl, hc.1, hc.2⟩
        · cases h
      · cases h
    · cases h
  · cases h

section
variable {P : Program} {C : Ctx} {s : AS} {o : Oper}

theorem flat_owns_one {w : World} {B E : Nat} (hB : B ≤ w.heap.size) (u : Value) : (w.alloc (.cells #[u] E)).ownsRow B E 1 (.slice (some ⟨w.heap.size, 0, none⟩) 1 1) 1 [u] := by
  have := World.ownsRow_lit (e := E) (size := 1) w #[u] 1 hB (by unfold maxLen; omega) rfl
  simpa using this

/-! ### 18. Append -/
/-- What is appended: a slice's first cells. -/
def Src (C : Ctx) (s : AS) (y : Operand) (sz : Nat) (ys : List (List AV)) : Prop := ∀ ψ φ a w, SimF C ψ φ s a w →
  (a.eval y = .slice none 0 0 ∧ ys = []) ∨ ∃ ad cap vs, a.eval y = .slice (some ad) ys.length cap ∧ Flat w (okS C ψ s.objs w) sz ys vs ∧ ∀ (k : Nat) u, vs[k]? = some u → w.cell? (ad.add k) = some u
theorem src_sl {y : Operand} {sz : Nat} {ys : List (List AV)} (hy : ev s y = some (.sl sz ys)) : Src C s y sz ys := fun ψ φ a w hF => by
  have hr := (hF.ev hy).sl_inv
  generalize hv : a.eval y = v at hr
  cases v with
  | slice A n cap =>
    cases A with
    | none => cases hr; exact .inl ⟨rfl, rfl⟩
    | some ad =>
      obtain ⟨rfl, _, _, _, vs, h1, h2⟩ := hr.flat
      exact .inr ⟨ad, cap, vs, rfl, h1, h2⟩
  | _ => cases hr
theorem src_nil {y : Operand} {sz : Nat} (hy : ev s y = some (.val (.slice none 0 0))) : Src C s y sz [] := fun ψ φ a w hF => .inl ⟨hF.ev_val hy, rfl⟩
theorem src_own {y : Operand} {e sz i : Nat} {p : List Nat} {t : Tr} {ys : List (List AV)} (hy : ev s y = some (.own i p)) (hi : lk i s.objs = some (.tree t)) (hp : t.get p = some (.leaf e sz ys)) : Src C s y sz ys := fun ψ φ a w hF => by
  obtain ⟨fp, e1, e2, _⟩ := hF.tree hy hi hp
  generalize a.eval y = v at e2
  cases e2 with
  | leaf _ _ _ _ vs ho hf =>
    rcases ho.2 with ⟨e3, h0⟩ | ⟨g, cap, cur, e3, hB, hg, h1, h2, _⟩
    · exact .inl ⟨e3, List.eq_nil_of_length_eq_zero h0⟩
    · subst e3
      exact .inr ⟨⟨g, 0, none⟩, cap, vs, rfl, hf, ho.cells (g := g) rfl⟩
theorem append_fresh {w w1 : World} {B T ty E n m cap : Nat} {inf : TypeInfo} {z v v' : Value} {vs us : List Value} {ad : Addr} (hu : P.underlying T = some (.slice E)) (hi : P.info? E = some inf) (hz : inf.zero = some z) (hzs : z.cells.size = inf.size) (hpos : 0 < inf.size)
    (hown : w.ownsRow B E inf.size v n vs) (hl : us.length = m * inf.size) (hc : ∀ (k : Nat) u, us[k]? = some u → w.cell? (ad.add k) = some u) (h1 : ∀ u ∈ us, u.oneCell' = true) (h63 : n + m ≤ maxLen) (hb : (n + m) * inf.bytes ≤ 140737488355328)
    (hr : (Builtin.append_ #[T, T] ty #[v, .slice (some ad) m cap]).run P w = .ok v' w1) : ∀ k, v'.ownBlock = some k → v.ownBlock = some k ∨ w.heap.size ≤ k := by
  intro k hk
  have h64 : n + m ≤ 9223372036854775807 := by simp only [maxLen] at h63; omega
  rcases hown.2 with ⟨rfl, rfl⟩ | ⟨g, c, cur, rfl, hB, hg, hn, hcm, hcs, htake⟩
  · have hx : vs = [] := List.eq_nil_of_length_eq_zero (by simpa using hown.1)
    subst hx
    obtain ⟨v2, w2, hr2, h2, _, _⟩ := run_append_own (P := P) w w.heap.size T ty E inf z inf.size inf.bytes hu hi hz rfl rfl hzs hpos (.slice none 0 0) 0 [] (World.ownsRow_nil w _ _ _) ad m cap us hl hc h1 h63 hb (Nat.le_refl _)
    rw [hr] at hr2
    injection hr2 with e1 e2
    subst e1
    exact .inr (h2.lt k hk).1
  · by_cases hroom : n + m ≤ c
    · obtain ⟨w2, hr2, _⟩ := run_append_fits (P := P) w B T ty E inf inf.size hu hi rfl g n c vs hown ad m cap us hl hc h1 hroom
      rw [hr] at hr2
      injection hr2 with e1 e2
      subst e1
      exact .inl hk
    · have holds : ∀ j u, vs[j]? = some u → w.cell? ((⟨g, 0, none⟩ : Addr).add j) = some u := hown.cells (g := g) rfl
      have hr2 := run_append_grow (P := P) w T ty E inf z hu hi hz ⟨g, 0, none⟩ n c vs hown.1 holds ad m cap us hl hc (by omega) (by omega) (growslice_fits (by omega) hb)
      rw [hr] at hr2
      injection hr2 with e1 e2
      subst e1
      simp only [Value.ownBlock, Option.some.injEq] at hk
      exact .inr (by omega)
theorem idsS_root (i : Nat) (t : Tr) (os : List (Nat × Obj)) : idsS ((i, .tree t) :: os) i [] := ⟨.tree t, by rw [lk_cons, if_pos rfl], t, rfl⟩
/-- An append onto a root row: what the machine does. -/
theorem append_run {T E sz by_ : Nat} {inf : TypeInfo} {z : Value} {x y : Operand} {w : World} {a : Act} {v : Value} {B n m : Nat} {vs : List Value} (ho : o.op = .call { callee := .builtin .append, args := #[x, y], argTypes := #[T, T] })
    (hu : P.underlying T = some (.slice E)) (hi : P.info? E = some inf) (hz : inf.zero = some z) (hs : inf.size = sz) (hby : inf.bytes = by_) (hzs : z.cells.size = sz) (hpos : 0 < sz) (hx : a.eval x = v) (hown : w.ownsRow B E sz v n vs) (hB : B ≤ w.heap.size)
    (us : List Value) (hy : (a.eval y = .slice none 0 0 ∧ us = [] ∧ m = 0) ∨ ∃ ad cap, a.eval y = .slice (some ad) m cap ∧ us.length = m * sz ∧ (∀ u ∈ us, u.oneCell' = true) ∧ ∀ (k : Nat) u, us[k]? = some u → w.cell? (ad.add k) = some u)
    (hb : (n + m) * by_ ≤ 140737488355328) (hl : n + m ≤ 140737488355328) :
    ∃ v' w1, (execOp a.eval o).run P w = .ok (.value v') w1 ∧ w1.ownsRow B E sz v' (n + m) (vs ++ us) ∧ w.grownBy w1 v.ownBlock ∧ (∀ k, v'.ownBlock = some k → v.ownBlock = some k ∨ w.heap.size ≤ k) := by
  rcases hy with ⟨e4, rfl, rfl⟩ | ⟨ad, cap, e4, hlu, h1u, hcu⟩
  · have hr := run_append_owned_none (P := P) w B T o.type E inf sz hu hi v n vs hown
    refine ⟨v, w, ?_, by simpa using hown, ⟨rfl, rfl, rfl, Nat.le_refl _, fun _ _ _ => rfl⟩, fun k hk => .inl hk⟩
    simp only [execOp, ho, resolve, invoke, builtin, Sem.run_bind, Sem.run_pure, Result.andThen_ok, List.map_toArray, List.map_cons, List.map_nil, hx, e4, hr]
  · obtain ⟨v', w1, hr, h2, h3, h4⟩ := run_append_own (P := P) w B T o.type E inf z sz by_ hu hi hz hs hby hzs hpos v n vs hown ad m cap us hlu hcu h1u (by unfold maxLen; omega) hb hB
    refine ⟨v', w1, ?_, h2, h3, ?_⟩
    · simp only [execOp, ho, resolve, invoke, builtin, Sem.run_bind, Sem.run_pure, Result.andThen_ok, List.map_toArray, List.map_cons, List.map_nil, hx, e4, hr]
    · subst hs
      subst hby
      exact append_fresh hu hi hz hzs hpos hown hlu hcu h1u (by unfold maxLen; omega) hb hr
theorem small_tree {i : Nat} {t : Tr} (h : Nat.blt i 2000000 = true) : fixable i (.tree t) = false := by
  have h1 : i < 2000000 := by simpa [Nat.blt_eq] using h
  cases e : Nat.ble 2000000 i
  · exact e
  · have := Nat.le_of_ble_eq_true e
    omega
theorem op_append {i d T E sz by_ : Nat} {x y : Operand} {xs ys : List (List AV)} (ho : o.op = .call { callee := .builtin .append, args := #[x, y], argTypes := #[T, T] }) (hd : o.dst = some d) (hn : d < C.n) (hT : slK P T = some (E, sz, by_))
    (hx : ev s x = some (.own i [])) (hi : lk i s.objs = some (.tree (.leaf E sz xs))) (hy : Src C s y sz ys) (hb : (xs.length + ys.length) * by_ ≤ 140737488355328) (hl : xs.length + ys.length ≤ 140737488355328) (h2m : Nat.blt i 2000000 = true := by exact rfl) :
    OpD P C [i] o s ⟨(d, .own i []) :: jkE [i] s.env, (i, .tree (.leaf E sz (xs ++ ys))) :: jkO [i] s.objs⟩ := by
  intro ψ φ a w hF
  obtain ⟨inf, z, hu, hi', hz, hs, hby, hzs, hpos⟩ := slK_spec hT
  have e1 : a.eval x = φ i := (hF.ev_own hx).1
  have hobj := hF.hp.objs i _ hi
  generalize hψ : ψ i = fp at hobj
  generalize hφ : φ i = v at hobj
  cases hobj with
  | leaf _ _ _ _ vs hown hf =>
    have hsrc : ∃ us, ((a.eval y = .slice none 0 0 ∧ us = [] ∧ ys.length = 0) ∨ ∃ ad cap, a.eval y = .slice (some ad) ys.length cap ∧ us.length = ys.length * sz ∧ (∀ u ∈ us, u.oneCell' = true) ∧ ∀ (k : Nat) u, us[k]? = some u → w.cell? (ad.add k) = some u) ∧ Flat w (okS C ψ s.objs w) sz ys us := by
      rcases hy ψ φ a w hF with ⟨h1, rfl⟩ | ⟨ad, cap, us, h1, h2, h3⟩
      · exact ⟨[], .inl ⟨h1, rfl, rfl⟩, Flat.nil _ _ _⟩
      · exact ⟨us, .inr ⟨ad, cap, h1, h2.len, h2.one, h3⟩, h2⟩
    obtain ⟨us, hsrc, hfu⟩ := hsrc
    obtain ⟨v', w1, hr, h2, h3, h4⟩ := append_run (P := P) ho hu hi' hz hs hby hzs hpos (e1.trans hφ) hown (Nat.zero_le _) us hsrc hb hl
    have hch : Ch w w1 (inD ψ s.objs [i]) := Ch.of_grown h3 (fun k hk => ⟨i, _, by simp, hi, by rw [hψ, owns_blk hown, hk]; simp⟩)
    have hblk : ∀ k, okS C ψ s.objs w k → w1.heap[k]? = w.heap[k]? := fun k hk => hch.block k hk.2.1 (fun ⟨d, od, _, hld, hkd⟩ => hk.2.2 d od hld hkd)
    have hm := hF.modF [i] i (.tree (.leaf E sz (xs ++ ys))) v' (blk v').toList (by simp) hch (small_tree h2m) (fun k hk => by
      rw [owns_blk h2] at hk
      rcases h4 k (by simpa using hk) with h5 | h5
      · exact .inl ⟨i, _, by simp, hi, by rw [hψ, owns_blk hown, h5]; simp⟩
      · exact .inr h5) (fun ok ids ψ' φ' hk => TreeAt.leaf E sz (xs ++ ys) v' (vs ++ us) (by rw [List.length_append]; exact h2) ((hf.append hfu).move hblk hk))
    have hput := hm.1.put d (.own i []) v' hn (.own i [] v' (idsS_root _ _ _) (by rw [ups_self, ups_self]; rfl))
    unfold Oper.wp
    rw [hr, Oper.upon_value, hd]
    exact ⟨_, _, hput, hch, hm.2⟩
/-- A literal of one row of the call's own: the row goes into it. -/
theorem op_lit_node {T E by_ d j : Nat} {x : Operand} {t : Tr} (ho : o.op = .buildSlice T 1 #[(0, x)]) (hd : o.dst = some d) (hn : d < C.n) (hT : slK P T = some (E, 1, by_)) (hx : ev s x = some (.own j [])) (hj : lk j s.objs = some (.tree t)) (h2m : Nat.blt j 2000000 = true := by exact rfl) :
    OpD P C [j] o s ⟨(d, .own j []) :: jkE [j] s.env, (j, .tree (.node E [t])) :: jkO [j] s.objs⟩ := by
  intro ψ φ a w hF
  obtain ⟨inf, z, hu, hi', hz, hs, hby, hzs, hpos⟩ := slK_spec hT
  have e1 : a.eval x = φ j := (hF.ev_own hx).1
  have hobj : TreeAt w 0 (okS C ψ s.objs w) t (φ j) (ψ j) := hF.hp.objs j _ hj
  obtain ⟨A, n, cap, e2⟩ := hobj.slice
  have hone : (φ j).oneCell' = true := by rw [e2]; rfl
  have hrun := run_buildSlice w T E 1 #[(0, φ j)] #[φ j] inf z hu hi' hz (by rw [hs]; omega) (by rw [hs]; omega) (by
    have := Go.Great.fill_whole (s := 1) (by omega) [φ j] ((Array.range (1 * inf.size)).map (z.cells[· % z.cells.size]!)) (by simp [cells_one hone]) (by simp [hs])
    rw [hs]
    simpa [cells_one hone, hs] using this)
  have hal := below_alloc w (.cells #[φ j] E)
  have hch : Ch w (w.alloc (.cells #[φ j] E)) (inD ψ s.objs [j]) := ⟨hal.os, hal.tape, hal.output, hal.size, fun k hk _ => hal.block k hk⟩
  have hm := hF.modF [j] j (.tree (.node E [t])) (.slice (some ⟨w.heap.size, 0, none⟩) 1 1) ([w.heap.size] ++ [ψ j].flatten) (by simp) hch (small_tree h2m) (fun k hk => by
    rcases List.mem_append.1 hk with hk | hk
    · exact .inr (by simp at hk; omega)
    · exact .inl ⟨j, _, by simp, hj, by simpa using hk⟩) (fun ok ids ψ' φ' hk => by
    refine TreeAt.node E [t] (.slice (some ⟨w.heap.size, 0, none⟩) 1 1) [φ j] [ψ j] ?_ rfl (fun q t' u f h1 h2 h3 => ?_) ?_
    · exact flat_owns_one (Nat.zero_le _) (φ j)
    · cases q with
      | zero =>
        obtain rfl : t = t' := by simpa using h1
        obtain rfl : φ j = u := by simpa using h2
        obtain rfl : ψ j = f := by simpa using h3
        exact hobj.move (fun k hk => hal.block k (hobj.lt k hk).2) (fun k hk => hal.block k hk.2.1) hk
      | succ q => simp at h1
    · have hnd := hobj.nodup
      simp only [blk, Option.toList_some, List.flatten_cons, List.flatten_nil, List.append_nil, List.singleton_append, List.nodup_cons]
      exact ⟨fun hk => by have := (hobj.lt _ hk).2; omega, hnd⟩)
  have hput := hm.1.put d (.own j []) _ hn (.own j [] _ (idsS_root _ _ _) (by rw [ups_self, ups_self]; rfl))
  unfold Oper.wp
  have hex : (execOp a.eval o).run P w = .ok (.value (.slice (some ⟨w.heap.size, 0, none⟩) 1 1)) (w.alloc (.cells #[φ j] E)) := by
    simp [execOp, ho, e1, hrun]
  rw [hex, Oper.upon_value, hd]
  exact ⟨_, _, hput, hch, hm.2⟩
theorem fps_move {w w1 : World} {B : Nat} {ok ok1 : Nat → Prop} {ts : List Tr} {vs : List Value} {fps : List (List Nat)} (h : ∀ (j : Nat) t u f, ts[j]? = some t → vs[j]? = some u → fps[j]? = some f → TreeAt w B ok t u f) (hb : ∀ k ∈ fps.flatten, w1.heap[k]? = w.heap[k]?) (hm : ∀ k, ok k → w1.heap[k]? = w.heap[k]?) (hk : ∀ k, ok k → ok1 k) :
    ∀ (j : Nat) t u f, ts[j]? = some t → vs[j]? = some u → fps[j]? = some f → TreeAt w1 B ok1 t u f := fun j t u f h1 h2 h3 => (h j t u f h1 h2 h3).move (fun k hk' => hb k (get_flatten h3 hk')) hm hk
/-- Rows of the call's own are appended to a row of rows. -/
theorem op_append_node {i j d T E by_ : Nat} {x y : Operand} {ts us : List Tr} (ho : o.op = .call { callee := .builtin .append, args := #[x, y], argTypes := #[T, T] }) (hd : o.dst = some d) (hn : d < C.n) (hT : slK P T = some (E, 1, by_))
    (hx : ev s x = some (.own i [])) (hi : lk i s.objs = some (.tree (.node E ts))) (hy : ev s y = some (.own j [])) (hj : lk j s.objs = some (.tree (.node E us))) (hne : Nat.beq i j = false) (hb : (ts.length + us.length) * by_ ≤ 140737488355328) (hl : ts.length + us.length ≤ 140737488355328) (h2m : Nat.blt i 2000000 = true := by exact rfl) :
    OpD P C [i, j] o s ⟨(d, .own i []) :: jkE [i, j] s.env, (i, .tree (.node E (ts ++ us))) :: jkO [i, j] s.objs⟩ := by
  intro ψ φ a w hF
  obtain ⟨inf, z, hu, hi', hz, hs, hby, hzs, hpos⟩ := slK_spec hT
  have e1 : a.eval x = φ i := (hF.ev_own hx).1
  have e2 : a.eval y = φ j := (hF.ev_own hy).1
  have hij : i ≠ j := fun e => by rw [e, Nat.beq_refl] at hne; cases hne
  have hdis : ∀ k, k ∈ ψ i → k ∉ ψ j := fun k h1 h2 => hij (hF.hp.disj i j _ _ k hi hj h1 h2)
  have hobj := hF.hp.objs i _ hi
  have hobj2 := hF.hp.objs j _ hj
  generalize hψ : ψ i = fp at hobj
  generalize hφ : φ i = v at hobj
  generalize hψ2 : ψ j = fp2 at hobj2
  generalize hφ2 : φ j = v2 at hobj2
  cases hobj with
  | node _ _ _ vs fps hown hlen h hnd =>
    cases hobj2 with
    | node _ _ _ vs2 fps2 hown2 hlen2 h2 hnd2 =>
      have hsrc : (a.eval y = .slice none 0 0 ∧ vs2 = [] ∧ us.length = 0) ∨ ∃ ad cap, a.eval y = .slice (some ad) us.length cap ∧ vs2.length = us.length * 1 ∧ (∀ u ∈ vs2, u.oneCell' = true) ∧ ∀ (k : Nat) u, vs2[k]? = some u → w.cell? (ad.add k) = some u := by
        rcases hown2.2 with ⟨e3, h0⟩ | ⟨g, cap, cur, e3, hB, hg, h1', h2', _⟩
        · refine .inl ⟨by rw [e2, hφ2, e3], ?_, h0⟩
          have := hown2.1
          rw [h0] at this
          exact List.eq_nil_of_length_eq_zero (by simpa using this)
        · refine .inr ⟨⟨g, 0, none⟩, cap, by rw [e2, hφ2, e3], hown2.1, fun u hu => ?_, ?_⟩
          · obtain ⟨q, hq, hqu⟩ := List.mem_iff_getElem.1 hu
            have hvl : vs2.length = us.length := by rw [hown2.1, Nat.mul_one]
            obtain ⟨A, n, cp, e⟩ := (h2 q _ u _ (List.getElem?_eq_getElem (by omega)) (by rw [List.getElem?_eq_getElem hq, hqu]) (List.getElem?_eq_getElem (by omega))).slice
            rw [e]
            rfl
          · subst e3
            exact hown2.cells (g := g) rfl
      obtain ⟨v', w1, hr, h5, h3, h4⟩ := append_run (P := P) ho hu hi' hz hs hby hzs hpos (e1.trans hφ) hown (Nat.zero_le _) vs2 hsrc hb hl
      have hold : ∀ k, v.ownBlock = some k → k ∈ ψ i := fun k hk => by rw [hψ, owns_blk hown, hk]; simp
      have hch : Ch w w1 (inD ψ s.objs [i, j]) := Ch.of_grown h3 (fun k hk => ⟨i, _, by simp, hi, hold k hk⟩)
      have hblk : ∀ k, okS C ψ s.objs w k → w1.heap[k]? = w.heap[k]? := fun k hk => hch.block k hk.2.1 (fun ⟨d, od, _, hld, hkd⟩ => hk.2.2 d od hld hkd)
      have hin1 : ∀ k ∈ fps.flatten, k ∈ ψ i := fun k hk => by rw [hψ]; exact List.mem_append_right _ hk
      have hin2 : ∀ k ∈ fps2.flatten, k ∈ ψ j := fun k hk => by rw [hψ2]; exact List.mem_append_right _ hk
      have hb1 : ∀ k ∈ fps.flatten, w1.heap[k]? = w.heap[k]? := fun k hk => h3.block k (hF.hp.lt hi (hin1 k hk)).2 (fun e => by
        have h7 := (List.nodup_append.1 hnd).2.2 k (by rw [owns_blk hown, ← e]; simp) k hk
        exact h7 rfl)
      have hb2 : ∀ k ∈ fps2.flatten, w1.heap[k]? = w.heap[k]? := fun k hk => h3.block k (hF.hp.lt hj (hin2 k hk)).2 (fun e => hdis k (hold k e.symm) (hin2 k hk))
      have hm := hF.modF [i, j] i (.tree (.node E (ts ++ us))) v' ((blk v').toList ++ (fps ++ fps2).flatten) (by simp) hch (small_tree h2m) (fun k hk => by
        rcases List.mem_append.1 hk with hk | hk
        · rw [owns_blk h5] at hk
          rcases h4 k (by simpa using hk) with h6 | h6
          · exact .inl ⟨i, _, by simp, hi, hold k h6⟩
          · exact .inr h6
        · rw [List.flatten_append] at hk
          rcases List.mem_append.1 hk with hk | hk
          · exact .inl ⟨i, _, by simp, hi, hin1 k hk⟩
          · exact .inl ⟨j, _, by simp, hj, hin2 k hk⟩) (fun ok ids ψ' φ' hk => by
        have hvl : vs.length = ts.length := by rw [hown.1, Nat.mul_one]
        refine TreeAt.node E (ts ++ us) v' (vs ++ vs2) (fps ++ fps2) (by rw [List.length_append]; exact h5) (by rw [List.length_append, List.length_append, hlen, hlen2]) (fun q t u f k1 k2 k3 => ?_) ?_
        · by_cases hq : q < ts.length
          · rw [List.getElem?_append_left hq] at k1
            rw [List.getElem?_append_left (by omega)] at k2
            rw [List.getElem?_append_left (by omega)] at k3
            exact fps_move h hb1 hblk hk q t u f k1 k2 k3
          · rw [List.getElem?_append_right (by omega)] at k1
            rw [List.getElem?_append_right (by omega)] at k2
            rw [List.getElem?_append_right (by omega)] at k3
            rw [hvl] at k2
            rw [hlen] at k3
            exact fps_move h2 hb2 hblk hk _ t u f k1 k2 k3
        · rw [List.flatten_append, List.nodup_append]
          have hn1 := (List.nodup_append.1 hnd).2.1
          have hn2 := (List.nodup_append.1 hnd2).2.1
          refine ⟨by cases blk v' <;> simp, List.nodup_append.2 ⟨hn1, hn2, fun p hp q hq e => hdis p (hin1 p hp) (hin2 p (e ▸ hq))⟩, fun p hp q hq e => ?_⟩
          subst e
          rw [owns_blk h5] at hp
          rcases h4 p (by simpa using hp) with h6 | h6
          · rcases List.mem_append.1 hq with hq | hq
            · exact (List.nodup_append.1 hnd).2.2 p (by rw [owns_blk hown, h6]; simp) p hq rfl
            · exact hdis p (hold p h6) (hin2 p hq)
          · rcases List.mem_append.1 hq with hq | hq
            · have := (hF.hp.lt hi (hin1 p hq)).2
              omega
            · have := (hF.hp.lt hj (hin2 p hq)).2
              omega)
      have hput := hm.1.put d (.own i []) v' hn (.own i [] v' (idsS_root _ _ _) (by rw [ups_self, ups_self]; rfl))
      unfold Oper.wp
      rw [hr, Oper.upon_value, hd]
      exact ⟨_, _, hput, hch, hm.2⟩
end
end Go.Proofs.YtmiijpobhajfmaaGreat.J
