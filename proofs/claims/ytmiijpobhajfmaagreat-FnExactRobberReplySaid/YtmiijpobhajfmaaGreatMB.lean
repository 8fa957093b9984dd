/- Parts of a small logic over the program, and walks in it. No statement of the seat is proved in this text. -/
import Derived.Test.YtmiijpobhajfmaaGreatMA
import Derived.Laws.Tables
import Derived.Great.FillDense
namespace Go.Proofs.YtmiijpobhajfmaaGreat.J
open Go Go.RowKit
set_option linter.unusedVariables false
set_option linter.unusedSimpArgs false
section
variable {P : Program} {C : Ctx} {s : AS} {o : Oper}

/-! ### 19. Stores into a row -/
theorem Flat.splice {w : World} {ok : Nat → Prop} {sz : Nat} {xs : List (List AV)} {vs : List Value} (h : Flat w ok sz xs vs) {j c : Nat} {y ns : List AV} {us : List Value} (hy : xs[j]? = some y) (hl : us.length = ns.length) (hc : c + ns.length ≤ sz)
    (h1 : ∀ u ∈ us, u.oneCell' = true) (hr : ∀ (q : Nat) av u, ns[q]? = some av → us[q]? = some u → RO w ok av u) :
    Flat w ok sz (xs.set j (y.take c ++ ns ++ y.drop (c + ns.length))) (vs.take (j * sz + c) ++ us ++ vs.drop (j * sz + c + us.length)) := by
  have hj : j < xs.length := (List.getElem?_eq_some_iff.1 hy).1
  have hys : y.length = sz := h.sz_ y (List.mem_of_getElem? hy)
  have hmul : (j + 1) * sz ≤ xs.length * sz := Nat.mul_le_mul_right sz hj
  rw [Nat.add_mul, Nat.one_mul] at hmul
  have hvl : j * sz + c + us.length ≤ vs.length := by rw [h.len]; omega
  refine ⟨?_, fun u hu => ?_, fun x hx => ?_, fun q x e a hx ha => ?_⟩
  · simp only [List.length_append, List.length_take, List.length_drop, List.length_set]
    have := h.len
    omega
  · rcases mem_splice hu with h2 | h2
    · exact h.one u h2
    · exact h1 u h2
  · rcases List.mem_or_eq_of_mem_set hx with h2 | h2
    · exact h.sz_ x h2
    · rw [h2]
      simp only [List.length_append, List.length_take, List.length_drop]
      omega
  · rw [splice_get _ _ _ _ hvl]
    rw [List.getElem?_set] at hx
    by_cases e1 : j = q
    · subst e1
      rw [if_pos rfl, if_pos hj] at hx
      obtain rfl := Option.some.inj hx
      rw [splice_get _ _ _ _ (by omega)] at ha
      by_cases c1 : e < c
      · rw [if_pos c1] at ha
        rw [if_pos (by omega)]
        exact h.at_ j y e a hy ha
      · rw [if_neg c1] at ha
        rw [if_neg (by omega)]
        by_cases c2 : e < c + ns.length
        · rw [if_pos c2] at ha
          rw [if_pos (by omega)]
          have hlt : e - c < us.length := by omega
          refine ⟨us[e - c], ?_, hr _ a _ ha (List.getElem?_eq_getElem hlt)⟩
          rw [show j * sz + e - (j * sz + c) = e - c by omega]
          exact List.getElem?_eq_getElem hlt
        · rw [if_neg c2] at ha
          rw [if_neg (by omega)]
          exact h.at_ j y e a hy ha
    · rw [if_neg e1] at hx
      obtain ⟨u, hu, hr2⟩ := h.at_ q x e a hx ha
      have hes : e < sz := by
        have := (List.getElem?_eq_some_iff.1 ha).1
        rw [h.sz_ x (List.mem_of_getElem? hx)] at this
        exact this
      have hmm : q < j ∨ j < q := by omega
      have : q * sz + e < j * sz ∨ j * sz + sz ≤ q * sz + e := by
        rcases hmm with h3 | h3
        · have := Nat.mul_le_mul_right sz (show q + 1 ≤ j from h3)
          rw [Nat.add_mul, Nat.one_mul] at this
          exact .inl (by omega)
        · have := Nat.mul_le_mul_right sz (show j + 1 ≤ q from h3)
          rw [Nat.add_mul, Nat.one_mul] at this
          exact .inr (by omega)
      refine ⟨u, ?_, hr2⟩
      by_cases c1 : q * sz + e < j * sz + c
      · rw [if_pos c1]; exact hu
      · rw [if_neg c1, if_neg (by omega)]; exact hu
def Tr.upd : Tr → List Nat → Tr → Tr
  | _, [], t' => t'
  | .leaf e sz xs, _ :: _, _ => .leaf e sz xs
  | .rv sz xs, _ :: _, _ => .rv sz xs
  | .node e ts, j :: p, t' => match ts[j]? with
    | some t => .node e (ts.set j (t.upd p t'))
    | none => .node e ts
theorem Tr.get_upd : ∀ {p : List Nat} {t t' t'' : Tr}, t.get p = some t' → (∀ q, (∃ r, t'.get q = some r) → ∃ r, t''.get q = some r) → ∀ q, (∃ r, t.get q = some r) → ∃ r, (t.upd p t'').get q = some r
  | [], t, t', t'', hg, h, q, hq => by
    simp only [Tr.get, Option.some.injEq] at hg
    subst hg
    exact h q hq
  | j :: p, t, t', t'', hg, h, q, hq => by
    cases t with
    | leaf => simp [Tr.get] at hg
    | rv => simp [Tr.get] at hg
    | node e ts =>
      simp only [Tr.get] at hg
      cases hj : ts[j]? with
      | none => rw [hj] at hg; cases hg
      | some t1 =>
        rw [hj] at hg
        simp only [Tr.upd, hj]
        cases q with
        | nil => exact ⟨_, rfl⟩
        | cons j' q =>
          simp only [Tr.get] at hq ⊢
          rw [List.getElem?_set]
          by_cases e1 : j = j'
          · subst e1
            have hjl : j < ts.length := (List.getElem?_eq_some_iff.1 hj).1
            rw [if_pos rfl, if_pos hjl]
            rw [hj] at hq
            exact Tr.get_upd hg h q hq
          · rw [if_neg e1]
            exact hq
/-- One row of plain cells inside a tree is written: the tree stands, its paths too. -/
theorem TreeAt.upd {w w1 : World} {B g : Nat} {ok ok1 : Nat → Prop} {t2 : Tr} {v2 : Value} (hg2 : (blk v2).toList = [g]) (hsame : ∀ k, k < w.heap.size → k ≠ g → w1.heap[k]? = w.heap[k]?) (hk : ∀ k, ok k → ok1 k) (hok : ¬ ok g) (hokl : ∀ k, ok k → k < w.heap.size) (h2 : TreeAt w1 B ok1 t2 v2 [g]) :
    ∀ {p : List Nat} {t t' : Tr} {v : Value} {fp : List Nat}, TreeAt w B ok t v fp → t.get p = some t' → (∃ e sz xs, t' = .leaf e sz xs) → At w fp v p v2 →
      g ∈ fp ∧ TreeAt w1 B ok1 (t.upd p t2) v fp ∧ ∀ q r, t.get q = some r → ∃ u, At w fp v q u ∧ At w1 fp v q u
  | [], t, t', v, fp, h, hg, ⟨e, sz, xs, hl⟩, ha => by
    simp only [Tr.get, Option.some.injEq] at hg
    subst hg
    subst hl
    have e1 : v2 = v := ha
    subst e1
    cases h with
    | leaf _ _ _ _ vs ho hf =>
      refine ⟨by rw [hg2]; simp, by rw [hg2]; exact h2, fun q r hq => ?_⟩
      cases q with
      | nil => exact ⟨v2, rfl, rfl⟩
      | cons j q => simp [Tr.get] at hq
  | j :: p, t, t', v, fp, h, hg, hl, ha => by
    cases h with
    | leaf => simp [Tr.get] at hg
    | rv => simp [Tr.get] at hg
    | node e ts _ vs fps ho hlen h hnd =>
      simp only [Tr.get] at hg
      cases hj : ts[j]? with
      | none => rw [hj] at hg; cases hg
      | some t1 =>
        rw [hj] at hg
        have hjl : j < ts.length := (List.getElem?_eq_some_iff.1 hj).1
        have hvl : vs.length = ts.length := by rw [ho.1, Nat.mul_one]
        have hv1 : vs[j]? = some vs[j] := List.getElem?_eq_getElem (by omega)
        have hf1 : fps[j]? = some fps[j] := List.getElem?_eq_getElem (by omega)
        have hchild := h j t1 _ _ hj hv1 hf1
        rcases ho.2 with ⟨_, h0⟩ | ⟨g0, cap, cur, rfl, hB, hg0, hn, hcm, hcs, htake⟩
        · omega
        · have hac : At w fps[j] vs[j] p v2 := by
            obtain ⟨g', n', cap', y, h1, h2', h3, h4⟩ := ha
            simp only [Value.slice.injEq, Option.some.injEq, Addr.mk.injEq, and_true, true_and] at h1
            obtain ⟨rfl, _, _⟩ := h1
            rw [owns_cell ho j _ hv1] at h3
            obtain rfl := Option.some.inj h3
            obtain ⟨v', fp', k1, k2, k3⟩ := TreeAt.get hchild hg
            have := (At.sub (S' := (blk (Value.slice (some ⟨g0, 0, none⟩) ts.length cap)).toList ++ fps.flatten) (fun k hk => List.mem_append_right _ (get_flatten hf1 hk)) k1).same h4
            rw [← this]
            exact k1
          obtain ⟨i1, i2, i3⟩ := TreeAt.upd hg2 hsame hk hok hokl h2 hchild hg hl hac
          have hgin : g ∈ fps.flatten := get_flatten hf1 i1
          have hg0ne : g0 ≠ g := fun e => (List.nodup_append.1 hnd).2.2 g0 (by simp [blk]) g hgin e
          have hcell : ∀ q : Nat, w1.cell? ⟨g0, q, none⟩ = w.cell? ⟨g0, q, none⟩ := fun q => World.cell?_of_block (w := w) (hsame g0 (Array.getElem?_eq_some_iff.1 hg0).1 hg0ne)
          have hfn := (List.nodup_append.1 hnd).2.1
          have hdisj : ∀ (q : Nat) f, q ≠ j → fps[q]? = some f → g ∉ f := by
            intro q f hq hf hgf
            have hql : q < fps.length := (List.getElem?_eq_some_iff.1 hf).1
            have hjl' : j < fps.length := by omega
            have hpw := List.pairwise_iff_getElem.1 (List.pairwise_flatten.1 hfn).2
            have ef : fps[q] = f := by
              rw [List.getElem?_eq_getElem hql] at hf
              exact Option.some.inj hf
            rcases Nat.lt_or_gt_of_ne hq with hlt | hlt
            · exact hpw q j hql hjl' hlt g (by rw [ef]; exact hgf) g i1 rfl
            · exact hpw j q hjl' hql hlt g i1 g (by rw [ef]; exact hgf) rfl
          have hm : ∀ k, ok k → w1.heap[k]? = w.heap[k]? := fun k hk => hsame k (hokl k hk) (fun e => hok (e ▸ hk))
          refine ⟨List.mem_append_right _ hgin, ?_, ?_⟩
          · simp only [Tr.upd, hj]
            refine TreeAt.node e _ _ vs fps ?_ (by rw [List.length_set]; exact hlen) (fun q t u f k1 k2 k3 => ?_) hnd
            · rw [List.length_set]
              exact ownsRow_move ho (fun k hk => hsame k (owns_lt ho k hk).2 (by simp [blk] at hk; omega))
            · rw [List.getElem?_set] at k1
              by_cases e1 : j = q
              · subst e1
                rw [if_pos rfl, if_pos hjl] at k1
                rw [hv1] at k2
                rw [hf1] at k3
                obtain rfl := Option.some.inj k1
                obtain rfl := Option.some.inj k2
                obtain rfl := Option.some.inj k3
                exact i2
              · rw [if_neg e1] at k1
                exact (h q t u f k1 k2 k3).move (fun k hk => hsame k ((h q t u f k1 k2 k3).lt k hk).2 (fun e => hdisj q f (Ne.symm e1) k3 (e ▸ hk))) hm hk
          · intro q r hq
            cases q with
            | nil => exact ⟨_, rfl, rfl⟩
            | cons j' q =>
              simp only [Tr.get] at hq
              cases hj' : ts[j']? with
              | none => rw [hj'] at hq; cases hq
              | some t3 =>
                rw [hj'] at hq
                have hjl' : j' < ts.length := (List.getElem?_eq_some_iff.1 hj').1
                have hv3 : vs[j']? = some vs[j'] := List.getElem?_eq_getElem (by omega)
                have hf3 : fps[j']? = some fps[j'] := List.getElem?_eq_getElem (by omega)
                have hsub : ∀ k ∈ fps[j'], k ∈ (blk (Value.slice (some ⟨g0, 0, none⟩) ts.length cap)).toList ++ fps.flatten := fun k hk => List.mem_append_right _ (get_flatten hf3 hk)
                have hc3 := owns_cell ho j' _ hv3
                by_cases e1 : j = j'
                · subst e1
                  rw [hj] at hj'
                  obtain rfl := Option.some.inj hj'
                  obtain ⟨u, u1, u2⟩ := i3 q r hq
                  exact ⟨u, ⟨g0, _, cap, _, rfl, List.mem_append_left _ (by simp [blk]), hc3, u1.sub hsub⟩, ⟨g0, _, cap, _, rfl, List.mem_append_left _ (by simp [blk]), by rw [hcell]; exact hc3, u2.sub hsub⟩⟩
                · obtain ⟨v', fp', k1, k2, k3⟩ := TreeAt.get (h j' t3 _ _ hj' hv3 hf3) hq
                  have k4 : At w1 fps[j'] vs[j'] q v' := k1.move (fun k hk => hsame k ((h j' t3 _ _ hj' hv3 hf3).lt k hk).2 (fun e => hdisj j' _ (Ne.symm e1) hf3 (e ▸ hk)))
                  exact ⟨v', ⟨g0, _, cap, _, rfl, List.mem_append_left _ (by simp [blk]), hc3, k1.sub hsub⟩, ⟨g0, _, cap, _, rfl, List.mem_append_left _ (by simp [blk]), by rw [hcell]; exact hc3, k4.sub hsub⟩⟩
theorem op_store_row_cells {T i e sz j c : Nat} {p : List Nat} {t tn : Tr} {x y : Operand} {xs : List (List AV)} {q ns : List AV} (ho : o.op = .store T x y) (hd : o.dst = none) (hT : (P.info? T).map (·.size) = some ns.length) (hx : ev s x = some (.oref i p sz j c)) (hi : lk i s.objs = some (.tree t)) (hp : t.get p = some (.leaf e sz xs))
    (hq : xs[j]? = some q) (hl : c + ns.length ≤ sz) (hup : t.upd p (.leaf e sz (xs.set j (q.take c ++ ns ++ q.drop (c + ns.length)))) = tn)
    (hy : ∀ ψ φ a w, SimF C ψ φ s a w → ∃ us : List Value, (a.eval y).cells.toList = us ∧ us.length = ns.length ∧ (∀ u ∈ us, u.oneCell' = true) ∧ ∀ (j : Nat) av u, ns[j]? = some av → us[j]? = some u → RO w (okS C ψ s.objs w) av u) :
    OpD P C [i] o s ⟨s.env, (i, .tree tn) :: rm i s.objs⟩ := by
  subst hup
  refine OpD.upd hd hi ?_ rfl ?_
  · exact fun q h => Tr.get_upd hp (fun q hq => by cases q with | nil => exact ⟨_, rfl⟩ | cons => simp [Tr.get] at hq) q h
  exact (fun ψ φ a w hF => by
    obtain ⟨g, n, cap, e1, e2, e3⟩ := (hF.ev hx).oref_inv
    obtain ⟨us, hus, hul, hu1, hur⟩ := hy ψ φ a w hF
    have hobj : TreeAt w 0 (okS C ψ s.objs w) t (φ i) (ψ i) := hF.hp.objs i _ hi
    obtain ⟨v', fp', h3, h4, h5⟩ := TreeAt.get hobj hp
    have ev' := e1.same h3
    subst ev'
    have hj : j < xs.length := (List.getElem?_eq_some_iff.1 hq).1
    have hmul : (j + 1) * sz ≤ xs.length * sz := Nat.mul_le_mul_right sz hj
    rw [Nat.add_mul, Nat.one_mul] at hmul
    have hgi : g ∈ ψ i := h5 g (by
      cases h4 with
      | leaf => simp [blk])
    have hokg : ¬ okS C ψ s.objs w g := fun hk => hk.2.2 i _ hi hgi
    cases h4 with
    | leaf _ _ _ _ vs hown hf =>
      rcases hown.2 with ⟨h, _⟩ | ⟨g', cap', cur, h, hB, hg, hn, hcm, hcs, htake⟩
      · cases h
      · simp only [Value.slice.injEq, Option.some.injEq, Addr.mk.injEq, and_true, true_and] at h
        obtain ⟨hg', hnl, hcap⟩ := h
        subst hg'
        subst hcap
        subst hnl
        have hcc : xs.length * sz ≤ cap * sz := Nat.mul_le_mul_right sz hn
        have hlen : j * sz + c + us.length ≤ cur.size := by rw [hcs]; omega
        have hrun := run_storeAt (P := P) (T := T) (v := a.eval y) (by rw [hT, hul]) hus hu1 hg hlen
        have hsame : ∀ k, k ≠ g → (w.setRow g (cur.toList.take (j * sz + c) ++ us ++ cur.toList.drop (j * sz + c + us.length)).toArray).heap[k]? = w.heap[k]? := fun k hk => setRow_other w g k _ hk
        have hm : ∀ k, okS C ψ s.objs w k → (w.setRow g (cur.toList.take (j * sz + c) ++ us ++ cur.toList.drop (j * sz + c + us.length)).toArray).heap[k]? = w.heap[k]? := fun k hk => hsame k (fun e => hokg (e ▸ hk))
        have hvl : j * sz + c + us.length ≤ vs.length := by rw [hf.len]; omega
        have hleaf : ∀ ok1, (∀ k, okS C ψ s.objs w k → ok1 k) → TreeAt (w.setRow g (cur.toList.take (j * sz + c) ++ us ++ cur.toList.drop (j * sz + c + us.length)).toArray) 0 ok1 (.leaf e sz (xs.set j (q.take c ++ ns ++ q.drop (c + ns.length)))) (.slice (some ⟨g, 0, none⟩) xs.length cap) [g] := by
          intro ok1 hk1
          have := TreeAt.leaf (w := w.setRow g (cur.toList.take (j * sz + c) ++ us ++ cur.toList.drop (j * sz + c + us.length)).toArray) (B := 0) (ok := ok1) e sz (xs.set j (q.take c ++ ns ++ q.drop (c + ns.length))) (.slice (some ⟨g, 0, none⟩) xs.length cap) (vs.take (j * sz + c) ++ us ++ vs.drop (j * sz + c + us.length)) ?_ ((hf.splice hq hul hl hu1 hur).move hm hk1)
          · simpa [blk] using this
          · rw [List.length_set]
            refine ⟨?_, .inr ⟨g, cap, _, rfl, hB, setRow_heap w g cur _ e (0, 0) hg, hn, hcm, ?_, ?_⟩⟩
            · simp only [List.length_append, List.length_take, List.length_drop]
              have := hf.len
              omega
            · simp only [List.size_toArray, List.length_append, List.length_take, List.length_drop, Array.length_toList]
              omega
            · rw [← htake]
              apply List.ext_getElem?
              intro k
              have hcl : j * sz + c + us.length ≤ cur.toList.length := by rw [Array.length_toList]; exact hlen
              have htl : j * sz + c + us.length ≤ (cur.toList.take (xs.length * sz)).length := by rw [htake]; exact hvl
              simp only [List.getElem?_take]
              rw [splice_get _ _ _ _ hcl, splice_get _ _ _ _ htl]
              simp only [List.getElem?_take]
              by_cases k1 : k < xs.length * sz
              · simp [k1]
              · have : ¬ k < j * sz + c := by omega
                have h5 : ¬ k < j * sz + c + us.length := by omega
                simp [k1, this, h5]
        refine ⟨w.setRow g (cur.toList.take (j * sz + c) ++ us ++ cur.toList.drop (j * sz + c + us.length)).toArray, by simp only [execOp, ho, e2, Sem.run_bind, hrun, Result.andThen_ok, Sem.run_pure], ch_setRow w g _ hgi, fun p' v hp' ha => ?_, fun ok ids h2 h3' => ?_⟩
        · obtain ⟨r, hr⟩ := hp'
          obtain ⟨_, _, i3⟩ := TreeAt.upd (v2 := .slice (some ⟨g, 0, none⟩) xs.length cap) (by simp [blk]) (fun k _ hk => hsame k hk) (fun _ h => h) hokg (fun k hk => hk.2.1) (hleaf _ (fun _ h => h)) hobj hp ⟨e, sz, xs, rfl⟩ e1
          obtain ⟨u, u1, u2⟩ := i3 p' r hr
          rw [ha.same u1]
          exact u2
        · exact (TreeAt.upd (v2 := .slice (some ⟨g, 0, none⟩) xs.length cap) (by simp [blk]) (fun k _ hk => hsame k hk) h2 hokg (fun k hk => hk.2.1) (hleaf _ h2) hobj hp ⟨e, sz, xs, rfl⟩ e1).2.1)
theorem op_store_row {T i e sz j c : Nat} {p : List Nat} {t tn : Tr} {x y : Operand} {xs : List (List AV)} {q : List AV} {av : AV} (ho : o.op = .store T x y) (hd : o.dst = none) (hT : (P.info? T).map (·.size) = some 1) (hx : ev s x = some (.oref i p sz j c)) (hi : lk i s.objs = some (.tree t)) (hp : t.get p = some (.leaf e sz xs))
    (hq : xs[j]? = some q) (hl : c + 1 ≤ sz) (hup : t.upd p (.leaf e sz (xs.set j (q.take c ++ [av] ++ q.drop (c + 1)))) = tn) (hy : ev s y = some av) (h1 : av.one = true) (hro : av.isRO = true) : OpD P C [i] o s ⟨s.env, (i, .tree tn) :: rm i s.objs⟩ :=
  op_store_row_cells (ns := [av]) ho hd hT hx hi hp hq hl hup (fun ψ φ a w hF => by
    have hr := hF.ev hy
    have hone := hF.one hr h1
    refine ⟨[a.eval y], by rw [cells_one hone], rfl, fun u hu => by rw [List.mem_singleton.1 hu]; exact hone, fun j b u hb hu => ?_⟩
    cases j with
    | zero =>
      obtain rfl : av = b := by simpa using hb
      obtain rfl : a.eval y = u := by simpa using hu
      exact hr.ro_of hro
    | succ j => simp at hb)
theorem op_store_row_agg {T i e sz j c : Nat} {p : List Nat} {t tn : Tr} {x y : Operand} {xs : List (List AV)} {q ns : List AV} (ho : o.op = .store T x y) (hd : o.dst = none) (hT : (P.info? T).map (·.size) = some ns.length) (hx : ev s x = some (.oref i p sz j c)) (hi : lk i s.objs = some (.tree t)) (hp : t.get p = some (.leaf e sz xs))
    (hq : xs[j]? = some q) (hl : c + ns.length ≤ sz) (hup : t.upd p (.leaf e sz (xs.set j (q.take c ++ ns ++ q.drop (c + ns.length)))) = tn) (hy : ev s y = some (.agg ns)) (h1 : AV.oneL ns = true) (hro : AV.roL ns = true) : OpD P C [i] o s ⟨s.env, (i, .tree tn) :: rm i s.objs⟩ :=
  op_store_row_cells ho hd hT hx hi hp hq hl hup (fun ψ φ a w hF => by
    obtain ⟨us, h2, h3, h4, h5⟩ := agg_cells hF hy h1
    exact ⟨us, h2, h3, h4, fun j av u ha hu => (h5 j av u ha hu).ro_of (roL_mem ns hro av (List.mem_of_getElem? ha))⟩)

/-! ### 20. Literals and makes -/
/-- What the parts of a literal are, element by element. -/
inductive Parts (s : AS) : List Operand → List (List AV) → Prop
  | nil : Parts s [] []
  | one {x : Operand} {av : AV} {r : List Operand} {xs : List (List AV)} (h : ev s x = some av) (h1 : av.one = true) (hro : av.isRO = true) (t : Parts s r xs) : Parts s (x :: r) ([av] :: xs)
  | wk {x : Operand} {av b : AV} {r : List Operand} {xs : List (List AV)} (h : ev s x = some av) (h1 : av.one = true) (hro : av.isRO = true) (hw : ∀ w ok v, RO w ok av v → RO w ok b v) (t : Parts s r xs) : Parts s (x :: r) ([b] :: xs)
  | agg {x : Operand} {cs : List AV} {r : List Operand} {xs : List (List AV)} (h : ev s x = some (.agg cs)) (h1 : AV.oneL cs = true) (hro : AV.roL cs = true) (t : Parts s r xs) : Parts s (x :: r) (cs :: xs)
theorem Parts.flat {l : List Operand} {xs : List (List AV)} (h : Parts s l xs) {ψ : Nat → List Nat} {φ : Nat → Value} {a : Act} {w : World} (hF : SimF C ψ φ s a w) {sz : Nat} (hsz : ∀ x ∈ xs, x.length = sz) :
    (l.map a.eval).length = xs.length ∧ (∀ v ∈ l.map a.eval, v.cells.size = sz) ∧ Flat w (okS C ψ s.objs w) sz xs ((l.map a.eval).flatMap fun v => v.cells.toList) := by
  induction h with
  | nil => exact ⟨rfl, by simp, Flat.nil _ _ _⟩
  | @one x av r xs h h1 hro t ih =>
    obtain ⟨i1, i2, i3⟩ := ih (fun y hy => hsz y (List.mem_cons_of_mem _ hy))
    have hr := hF.ev h
    have hone := hF.one hr h1
    have e : sz = 1 := (hsz [av] List.mem_cons_self).symm
    subst e
    refine ⟨by simpa using i1, fun v hv => ?_, ?_⟩
    · rcases List.mem_cons.1 hv with rfl | hv
      · rw [cells_one hone]; rfl
      · exact i2 v hv
    · rw [List.map_cons, List.flatMap_cons]
      refine Flat.append (xs := [[av]]) ⟨by rw [cells_one hone]; rfl, fun u hu => ?_, by simp, fun j y c b hy hb => ?_⟩ i3
      · rw [cells_one hone] at hu
        obtain rfl : u = a.eval x := by simpa using hu
        exact hone
      · cases j with
        | zero =>
          obtain rfl : [av] = y := by simpa using hy
          cases c with
          | zero =>
            obtain rfl : av = b := by simpa using hb
            exact ⟨a.eval x, by rw [cells_one hone]; rfl, hr.ro_of hro⟩
          | succ c => simp at hb
        | succ j => simp at hy
  | @wk x av bv r xs h h1 hro hw t ih =>
    obtain ⟨i1, i2, i3⟩ := ih (fun y hy => hsz y (List.mem_cons_of_mem _ hy))
    have hr := hF.ev h
    have hone := hF.one hr h1
    have e : sz = 1 := (hsz [bv] List.mem_cons_self).symm
    subst e
    refine ⟨by simpa using i1, fun v hv => ?_, ?_⟩
    · rcases List.mem_cons.1 hv with rfl | hv
      · rw [cells_one hone]; rfl
      · exact i2 v hv
    · rw [List.map_cons, List.flatMap_cons]
      refine Flat.append (xs := [[bv]]) ⟨by rw [cells_one hone]; rfl, fun u hu => ?_, by simp, fun j y c b hy hb => ?_⟩ i3
      · rw [cells_one hone] at hu
        obtain rfl : u = a.eval x := by simpa using hu
        exact hone
      · cases j with
        | zero =>
          obtain rfl : [bv] = y := by simpa using hy
          cases c with
          | zero =>
            obtain rfl : bv = b := by simpa using hb
            exact ⟨a.eval x, by rw [cells_one hone]; rfl, hw _ _ _ (hr.ro_of hro)⟩
          | succ c => simp at hb
        | succ j => simp at hy
  | @agg x cs r xs h h1 hro t ih =>
    obtain ⟨i1, i2, i3⟩ := ih (fun y hy => hsz y (List.mem_cons_of_mem _ hy))
    obtain ⟨us, h2, h3, h4, h5⟩ := agg_cells hF h h1
    have e : cs.length = sz := hsz cs List.mem_cons_self
    refine ⟨by simpa using i1, fun v hv => ?_, ?_⟩
    · rcases List.mem_cons.1 hv with rfl | hv
      · rw [← Array.length_toList, h2, h3, e]
      · exact i2 v hv
    · rw [List.map_cons, List.flatMap_cons]
      refine Flat.append (xs := [cs]) ⟨by rw [h2, h3, e]; simp, fun u hu => h4 u (by rw [← h2]; exact hu), by simp [e], fun j y c b hy hb => ?_⟩ i3
      cases j with
      | zero =>
        obtain rfl : cs = y := by simpa using hy
        have hc : c < us.length := by rw [h3]; exact (List.getElem?_eq_some_iff.1 hb).1
        refine ⟨us[c], by rw [h2, Nat.zero_mul, Nat.zero_add]; exact List.getElem?_eq_getElem hc, (h5 c b _ hb (List.getElem?_eq_getElem hc)).ro_of (roL_mem cs hro b (List.mem_of_getElem? hb))⟩
      | succ j => simp at hy
theorem run_buildSlice' {T E sz by_ : Nat} (hT : slK P T = some (E, sz, by_)) (vs : List Value) (h1 : ∀ v ∈ vs, v.cells.size = sz) (hs : vs.length * sz ≤ 16777216) (w : World) :
    (Instr.buildSlice T vs.length ((vs.zipIdx 0).map fun x => (x.2, x.1)).toArray).run P w = .ok (.slice (some ⟨w.heap.size, 0, none⟩) vs.length vs.length) (w.alloc (.cells (vs.flatMap fun v => v.cells.toList).toArray E)) := by
  obtain ⟨i, z, hu, hi, hz, e1, e2, e3, hpos⟩ := slK_spec hT
  subst e1
  by_cases h0 : vs.length = 0
  · have : vs = [] := List.eq_nil_of_length_eq_zero h0
    subst this
    simp [Instr.buildSlice, run_underlying hu, run_sizeOf' (P := P) (T := E) (n := i.size) (by rw [hi]; rfl), Instr.fill, run_newRow, Array.range_zero']
  · have hp : ¬ vs.length * i.size = 0 := Nat.mul_ne_zero h0 (by omega)
    refine run_buildSlice w T E vs.length _ _ i z hu hi hz (by omega) hp ?_
    exact Go.Great.fill_whole hpos vs _ h1 (by simp)
theorem parts_map (a : Act) (l : List Operand) : ∀ k, ((l.zipIdx k).map fun x => (x.2, x.1)).toArray.map (fun p : Nat × Operand => (p.1, a.eval p.2)) = (((l.map a.eval).zipIdx k).map fun x => (x.2, x.1)).toArray := by
  intro k
  rw [List.map_toArray]
  congr 1
  induction l generalizing k with
  | nil => rfl
  | cons x r ih => simp only [List.zipIdx_cons, List.map_cons, ih]
theorem flat_owns {w : World} {B E sz n : Nat} {vs : List Value} (hB : B ≤ w.heap.size) (hl : vs.length = n * sz) (hn : n ≤ maxLen) : (w.alloc (.cells vs.toArray E)).ownsRow B E sz (.slice (some ⟨w.heap.size, 0, none⟩) n n) n vs := by
  have := World.ownsRow_lit (e := E) (size := sz) w vs.toArray n hB hn (by simpa using hl)
  simpa using this
/-- A literal, to be owned. -/
theorem op_lit {T E sz by_ d : Nat} {l : List Operand} {xs : List (List AV)} (ho : o.op = .buildSlice T l.length ((l.zipIdx 0).map fun x => (x.2, x.1)).toArray) (hd : o.dst = some d) (hn : d < C.n) (hi : lk d s.objs = none) (hT : slK P T = some (E, sz, by_))
    (hp : Parts s l xs) (hsz : ∀ x ∈ xs, x.length = sz) (hs : xs.length * sz ≤ 16777216) (hs2 : xs.length ≤ 16777216) : OpD P C [] o s ⟨(d, .own d []) :: s.env, (d, .tree (.leaf E sz xs)) :: s.objs⟩ :=
  OpD.new hd hn hi ⟨_, rfl⟩ (fun ψ φ a w hF => by
    obtain ⟨h1, h2, h3⟩ := hp.flat hF hsz
    have hl : l.length = (l.map a.eval).length := by simp
    refine ⟨.slice (some ⟨w.heap.size, 0, none⟩) xs.length xs.length, w.alloc (.cells ((l.map a.eval).flatMap fun v => v.cells.toList).toArray E), [w.heap.size], ?_, below_alloc _ _, fun k hk => ?_, fun ok ids ψ' φ' k1 k2 => TreeAt.leaf E sz xs _ _ (flat_owns (Nat.zero_le _) h3.len (by unfold maxLen; omega)) ?_, fun ok ids ψ' φ' k1 k2 => ?_⟩
    · have := run_buildSlice' (P := P) hT (l.map a.eval) h2 (by rw [h1]; exact hs) w
      rw [h1] at this
      simp only [execOp, ho]
      rw [parts_map, hl, h1]
      simp [this]
    · simp at hk
      omega
    · exact h3.move (fun k hk => heap_alloc_old w _ k hk.2.1) k1
    · exact .own d [] _ k1 k2.symm)
/-- A literal that is only read. -/
theorem op_lit_ro {T E sz by_ d : Nat} {l : List Operand} {xs : List (List AV)} (ho : o.op = .buildSlice T l.length ((l.zipIdx 0).map fun x => (x.2, x.1)).toArray) (hd : o.dst = some d) (hn : d < C.n) (hT : slK P T = some (E, sz, by_))
    (hp : Parts s l xs) (hsz : ∀ x ∈ xs, x.length = sz) (hs : xs.length * sz ≤ 16777216) (hs2 : xs.length ≤ 16777216) : OpD P C [] o s ⟨(d, .sl sz xs) :: s.env, s.objs⟩ := by
  intro ψ φ a w hF
  obtain ⟨h1, h2, h3⟩ := hp.flat hF hsz
  have hl : l.length = (l.map a.eval).length := by simp
  have hrun := run_buildSlice' (P := P) hT (l.map a.eval) h2 (by rw [h1]; exact hs) w
  rw [h1] at hrun
  have hx := hF.ext (below_alloc w (.cells ((l.map a.eval).flatMap fun v => v.cells.toList).toArray E))
  unfold Oper.wp
  simp only [execOp, ho]
  rw [parts_map, hl, h1]
  simp only [Sem.run_bind, hrun, Result.andThen_ok, Sem.run_pure, Oper.upon_value, hd]
  refine ⟨ψ, φ, hx.put d (.sl sz xs) _ hn (.ro ?_), .of_below (below_alloc _ _), fun i o' hi k hk => .inr (.inl ⟨o', hi, hk⟩)⟩
  have ho := flat_owns (w := w) (B := 0) (E := E) (Nat.zero_le _) h3.len (show xs.length ≤ maxLen by unfold maxLen; omega)
  have h4 := hF.hp.ext (below_alloc w (.cells ((l.map a.eval).flatMap fun v => v.cells.toList).toArray E))
  refine own_ro ho (h3.move (ok1 := okS C ψ s.objs (w.alloc (.cells ((l.map a.eval).flatMap fun v => v.cells.toList).toArray E))) h4.2.2.1 h4.2.1) (fun _ h => h) (fun k hk => ?_)
  simp only [blk, Option.some.injEq] at hk
  subst hk
  refine ⟨.inr (.inl hF.hp.below.size), by simp, fun i oi hi e => ?_⟩
  have := (hF.hp.lt hi e).2
  omega
theorem op_make {T E sz by_ d : Nat} {x : Operand} {k1 : IntKind} {n : Int} {zs : List Value} (ho : o.op = .makeSlice T x x) (hd : o.dst = some d) (hn : d < C.n) (hi : lk d s.objs = none) (hT : slK P T = some (E, sz, by_)) (hz : zeroK P E = some zs)
    (hx : ev s x = some (.val (.int k1 n))) (h0 : 0 ≤ n) (hb : by_ * n.toNat ≤ 281474976710656) (hb2 : n ≤ 281474976710656) (h1 : zs.all (·.oneCell') = true) :
    OpD P C [] o s ⟨(d, .own d []) :: s.env, (d, .tree (.leaf E sz (List.replicate n.toNat (zs.map .val)))) :: s.objs⟩ :=
  OpD.new hd hn hi ⟨_, rfl⟩ (fun ψ φ a w hF => by
    obtain ⟨i, z, hu, hi', hz', e1, e2, e3, hpos⟩ := slK_spec hT
    have hzs : z.cells.toList = zs := by
      unfold zeroK at hz
      rw [hi', Option.bind_some, hz', Option.map_some, Option.some.injEq] at hz
      exact hz
    have hn' : (n.toNat : Int) = n := Int.toNat_of_nonneg h0
    obtain ⟨w1, hr, hown, hg⟩ := run_make_full (P := P) w 0 T E i z sz hu hi' hz' e1 k1 k1 n.toNat (by rw [e2]; exact hb) (by unfold maxLen; omega) (Nat.zero_le _)
    rw [hn'] at hr
    have hlen : zs.length = sz := by rw [← hzs, Array.length_toList, e3]
    have hbel : Below w.heap.size w w1 := ⟨hg.os, hg.tape, hg.output, hg.size, fun k hk => hg.block k hk (by simp)⟩
    refine ⟨.slice (some ⟨w.heap.size, 0, none⟩) n.toNat n.toNat, w1, [w.heap.size], by simp [execOp, ho, hF.ev_val hx, hr], hbel, fun k hk => ?_, fun ok ids ψ' φ' k1 k2 => TreeAt.leaf E sz _ _ (madeCells z.cells (n.toNat * sz)).toList (by rw [List.length_replicate]; exact hown) ?_, fun ok ids ψ' φ' k1 k2 => ?_⟩
    · simp at hk
      omega
    · have hml : ∀ k, k < n.toNat * sz → (madeCells z.cells (n.toNat * sz)).toList[k]? = some (zs.getD (k % sz) undef) := by
        intro k hk
        have hks : k % sz < zs.length := by rw [hlen]; exact Nat.mod_lt _ hpos
        have : z.cells[k % z.cells.size]! = zs.getD (k % sz) undef := by
          rw [e3, ← hzs]
          have h5 : k % sz < z.cells.size := by rw [e3]; exact Nat.mod_lt _ hpos
          rw [getElem!_pos z.cells (k % sz) h5, List.getD_eq_getElem?_getD, List.getElem?_eq_getElem (by rw [Array.length_toList]; exact h5)]
          simp
        simp [madeCells, hk, this]
      refine ⟨by simp [madeCells], fun u hu => ?_, fun x hx => ?_, fun j x c b hx hb => ?_⟩
      · obtain ⟨k, hk, hku⟩ := List.mem_iff_getElem.1 hu
        have hk' : k < n.toNat * sz := by simpa [madeCells] using hk
        have h5 := hml k hk'
        rw [List.getElem?_eq_getElem hk, hku, Option.some.injEq] at h5
        have hks : k % sz < zs.length := by rw [hlen]; exact Nat.mod_lt _ hpos
        rw [h5, List.getD_eq_getElem?_getD, List.getElem?_eq_getElem hks]
        exact List.all_eq_true.1 h1 _ (List.getElem_mem hks)
      · rw [List.eq_of_mem_replicate hx, List.length_map, hlen]
      · have hj : j < n.toNat := by have := (List.getElem?_eq_some_iff.1 hx).1; simpa using this
        have ex : x = zs.map .val := List.eq_of_mem_replicate (List.mem_of_getElem? hx)
        subst ex
        rw [List.getElem?_map, Option.map_eq_some_iff] at hb
        obtain ⟨u, hu, rfl⟩ := hb
        have hc : c < sz := by rw [← hlen]; exact (List.getElem?_eq_some_iff.1 hu).1
        have hmul : (j + 1) * sz ≤ n.toNat * sz := Nat.mul_le_mul_right sz hj
        rw [Nat.add_mul, Nat.one_mul] at hmul
        refine ⟨u, ?_, .val u⟩
        rw [hml _ (by omega), Nat.mul_comm j sz, Nat.mul_add_mod, Nat.mod_eq_of_lt hc, List.getD_eq_getElem?_getD, hu]
        rfl
    · exact .own d [] _ k1 k2.symm)
end
end Go.Proofs.YtmiijpobhajfmaaGreat.J
namespace Go.Proofs.YtmiijpobhajfmaaGreat.J
open Go Go.RowKit
set_option linter.unusedVariables false
set_option linter.unusedSimpArgs false
section
variable {P : Program} {C : Ctx} {s : AS} {o : Oper}

/-! ### 21. A part of a slice -/
theorem RO.part {w : World} {ok : Nat → Prop} {sz n cap : Nat} {xs : List (List AV)} {A : Option Addr} (h : RO w ok (.sl sz xs) (.slice A n cap)) (l hi : Nat) (hl : l ≤ hi) (hh : hi ≤ xs.length) :
    RO w ok (.sl sz ((xs.take hi).drop l)) (.slice (if cap = l then A else A.map (·.add (l * sz))) (hi - l) (cap - l)) := by
  cases h with
  | slNil =>
    have : hi = 0 := by simpa using hh
    subst this
    have : l = 0 := by omega
    subst this
    exact .slNil sz
  | sl _ _ ad _ us hn hc hok hsz hcell h =>
    have hlen : ((xs.take hi).drop l).length = hi - l := by
      rw [List.length_drop, List.length_take]; omega
    by_cases e : cap = l
    · have h0 : hi - l = 0 := by omega
      rw [if_pos e, h0]
      have : (xs.take hi).drop l = [] := List.eq_nil_of_length_eq_zero (by omega)
      rw [this]
      exact .sl sz [] ad (cap - l) us (Nat.zero_le _) (by omega) hok (by simp) (fun j x c a hx => by simp at hx) (fun j x c a hx => by simp at hx)
    · rw [if_neg e, Option.map_some, ← hlen]
      have hget : ∀ (j : Nat) x, ((xs.take hi).drop l)[j]? = some x → xs[l + j]? = some x := by
        intro j x hx
        rw [List.getElem?_drop, List.getElem?_take] at hx
        split at hx
        · exact hx
        · cases hx
      refine .sl sz _ _ (cap - l) (fun j c => us (l + j) c) (by omega) (by omega) (by rw [add_block]; exact hok) (fun x hx => hsz x (List.mem_of_mem_take (List.mem_of_mem_drop hx))) (fun j x c a hx ha => ?_) (fun j x c a hx ha => h _ x c a (hget j x hx) ha)
      have := hcell _ x c a (hget j x hx) ha
      rw [add_add, ← Nat.add_assoc, ← Nat.add_mul]
      exact this
/-- The bounds of a part: none, or a number. -/
def bnd (s : AS) (d : Int) : Option Operand → Option Int
  | none => some d
  | some x => match ev s x with
    | some (.val (.int _ n)) => some n
    | _ => none
theorem bnd_eval {ψ : Nat → List Nat} {φ : Nat → Value} {a : Act} {w : World} (hF : SimF C ψ φ s a w) {d n : Int} {x : Operand} (h : bnd s d (some x) = some n) : ∃ k, a.eval x = .int k n := by
  unfold bnd at h
  split at h
  · rename_i h1 ; cases h1
  · rename_i h1
    cases h1
    split at h
    · rename_i k m he
      obtain rfl := Option.some.inj h
      exact ⟨k, hF.ev_val he⟩
    · cases h
theorem run_sliceBound' (k : IntKind) (i : Int) (y : Nat) (code : BoundsCode) (h0 : 0 ≤ i) (h1 : i ≤ y) (w : World) : (Instr.sliceBound (.int k i) y code).run P w = .ok i.toNat w := by
  simp [Instr.sliceBound, asIntOf, h0, h1]
theorem run_sliceAt' {T E sz : Nat} (hT : P.underlying T = some (.slice E)) (hE : (P.info? E).map (·.size) = some sz) (A : Option Addr) (n cap : Nat) (lo hi : Option Value) (l h : Int)
    (hlo : (lo = none ∧ l = 0) ∨ ∃ k, lo = some (.int k l)) (hhi : (hi = none ∧ h = n) ∨ ∃ k, hi = some (.int k h)) (h0 : 0 ≤ l) (h1 : l ≤ h) (h2 : h ≤ n) (h3 : n ≤ cap) (w : World) :
    (Instr.sliceAt T (.slice A n cap) lo hi none).run P w = .ok (.slice (if cap = l.toNat then A else A.map (·.add (l.toNat * sz))) (h.toNat - l.toNat) (cap - l.toNat)) w := by
  have e1 : (Instr.sliceBounds true n cap lo hi none).run P w = .ok (l.toNat, h.toNat, cap) w := by
    have hh : ((h.toNat : Nat) : Int) = h := Int.toNat_of_nonneg (by omega)
    have b1 : ∀ k code, (Instr.sliceBound (.int k h) cap code).run P w = .ok h.toNat w := fun k code => run_sliceBound' k h cap code (by omega) (by omega) w
    have b2 : ∀ k code, (Instr.sliceBound (.int k l) h.toNat code).run P w = .ok l.toNat w := fun k code => run_sliceBound' k l h.toNat code h0 (by omega) w
    have b3 : ∀ k code, h = n → (Instr.sliceBound (.int k l) n code).run P w = .ok l.toNat w := fun k code e => run_sliceBound' k l n code h0 (by omega) w
    rcases hlo with ⟨rfl, rfl⟩ | ⟨kl, rfl⟩ <;> rcases hhi with ⟨rfl, rfl⟩ | ⟨kh, rfl⟩
    · simp [Instr.sliceBounds]
    · simp [Instr.sliceBounds, b1]
    · simp [Instr.sliceBounds, b3]
    · simp [Instr.sliceBounds, b1, b2]
  simp only [Instr.sliceAt, Sem.run_bind, run_underlying hT, Result.andThen_ok, Instr.slice, e1, run_sizeOf' hE, Sem.run_pure]
theorem pure_slice {T E sz : Nat} {x : Operand} {lo hi : Option Operand} {xs : List (List AV)} {l h : Int} (ho : o.op = .slice T x lo hi none) (hT : P.underlying T = some (.slice E)) (hE : (P.info? E).map (·.size) = some sz)
    (hx : ev s x = some (.sl sz xs)) (hlo : bnd s 0 lo = some l) (hhi : bnd s xs.length hi = some h) (h0 : 0 ≤ l) (h1 : l ≤ h) (h2 : h ≤ xs.length) : PureOp P C o s (.sl sz ((xs.take h.toNat).drop l.toNat)) := fun ψ φ a w hF => by
  have hr := (hF.ev hx).sl_inv
  have hv : ∃ A cap, a.eval x = .slice A xs.length cap ∧ xs.length ≤ cap := by
    generalize a.eval x = v at hr
    cases hr with
    | slNil => exact ⟨_, _, rfl, Nat.le_refl _⟩
    | sl _ _ _ _ _ hn => exact ⟨_, _, rfl, hn⟩
  obtain ⟨A, cap, e, hcap⟩ := hv
  rw [e] at hr
  refine ⟨_, fun w1 _ => ?_, .ro (hr.part l.toNat h.toNat (by omega) (by omega))⟩
  have b1 : (lo.map a.eval = none ∧ l = 0) ∨ ∃ k, lo.map a.eval = some (.int k l) := by
    cases lo with
    | none => exact .inl ⟨rfl, by simpa [bnd] using hlo.symm⟩
    | some y => obtain ⟨k, hk⟩ := bnd_eval hF hlo; exact .inr ⟨k, by simp [hk]⟩
  have b2 : (hi.map a.eval = none ∧ h = xs.length) ∨ ∃ k, hi.map a.eval = some (.int k h) := by
    cases hi with
    | none => exact .inl ⟨rfl, by simpa [bnd] using hhi.symm⟩
    | some y => obtain ⟨k, hk⟩ := bnd_eval hF hhi; exact .inr ⟨k, by simp [hk]⟩
  have := run_sliceAt' (P := P) hT hE A xs.length cap _ _ l h b1 b2 h0 h1 h2 hcap w1
  simp only [execOp, ho, e, Sem.run_bind, Option.map_none, this, Result.andThen_ok, Sem.run_pure]

/-! ### 22. An owned tree becomes a read-only slice -/
def bxA (r : AV) (f : Nat) : AV :=
  match r with
  | .ref cs => .ref (cs.drop f)
  | _ => .junk
def ptA (sz : Nat) (q : List Nat) (r : AV) (l n : Nat) : AV :=
  match q, r with
  | [], .sl sz' xs => bif Nat.beq sz sz' then .sl sz' ((xs.take n).drop l) else .junk
  | _, _ => .junk
mutual
def AV.fz (i : Nat) (r : AV) : AV → AV
  | .own j p => bif Nat.beq j i then (match p with | [] => r | _ :: _ => .junk) else .own j p
  | .box j f => bif Nat.beq j i then bxA r f else .box j f
  | .oref j q a b c => bif Nat.beq j i then .junk else .oref j q a b c
  | .agg cs => .agg (AV.fzL i r cs)
  | .tup cs => .tup (AV.fzL i r cs)
  | .clo g nf cs => .clo g nf (AV.fzL i r cs)
  | .part j q a b c => bif Nat.beq j i then ptA a q r b c else .part j q a b c
  | .junk => .junk
  | .val v => .val v
  | .sl a b => .sl a b
  | .ref cs => .ref cs
def AV.fzL (i : Nat) (r : AV) : List AV → List AV
  | [] => []
  | a :: t => AV.fz i r a :: AV.fzL i r t
end
theorem fzL_map (i : Nat) (r : AV) : ∀ cs, AV.fzL i r cs = cs.map (AV.fz i r)
  | [] => rfl
  | a :: t => by simp [AV.fzL, fzL_map i r t]
theorem RO.fz {w : World} {ok : Nat → Prop} {a : AV} {v : Value} (h : RO w ok a v) (i : Nat) (r : AV) : RO w ok (AV.fz i r a) v := by
  induction h with
  | junk v => simp only [AV.fz]; exact .junk v
  | val v => simp only [AV.fz]; exact .val v
  | agg cs vs hl h ih =>
    simp only [AV.fz, fzL_map]
    refine .agg _ vs (by simpa using hl) (fun j a u ha hu => ?_)
    rw [List.getElem?_map, Option.map_eq_some_iff] at ha
    obtain ⟨b, hb, rfl⟩ := ha
    exact ih j b u hb hu
  | tup cs vs hl h ih =>
    simp only [AV.fz, fzL_map]
    refine .tup _ vs (by simpa using hl) (fun j a u ha hu => ?_)
    rw [List.getElem?_map, Option.map_eq_some_iff] at ha
    obtain ⟨b, hb, rfl⟩ := ha
    exact ih j b u hb hu
  | clo g nf cs vf vc hl hn h ih =>
    simp only [AV.fz, fzL_map]
    refine .clo g nf _ vf vc (by simpa using hl) hn (fun j a u ha hu => ?_)
    rw [List.getElem?_map, Option.map_eq_some_iff] at ha
    obtain ⟨b, hb, rfl⟩ := ha
    exact ih j b u hb hu
  | slNil sz => simp only [AV.fz]; exact .slNil sz
  | sl sz xs ad cap us hn hc hok hsz hcell h _ => simp only [AV.fz]; exact .sl sz xs ad cap us hn hc hok hsz hcell h
  | ref cs ad us hok hcell h _ => simp only [AV.fz]; exact .ref cs ad us hok hcell h
theorem beq_false_ne {j i : Nat} (h : Nat.beq j i = false) : j ≠ i := by
  rintro rfl
  rw [Nat.beq_refl] at h
  cases h
theorem Rep.fz {w : World} {ok ok1 : Nat → Prop} {ids : Nat → List Nat → Prop} {ψ : Nat → List Nat} {φ : Nat → Value} {a : AV} {v : Value} (h : Rep w ok ids ψ φ a v) (i : Nat) (r : AV) (hk : ∀ k, ok k → ok1 k) (hr : Rep w ok1 (fun j p => ids j p ∧ j ≠ i) ψ φ r (φ i)) : Rep w ok1 (fun j p => ids j p ∧ j ≠ i) ψ φ (AV.fz i r a) v := by
  induction h with
  | ro h => exact .ro ((h.move (fun _ _ => rfl) hk).fz i r)
  | own j p v h ha =>
    simp only [AV.fz]
    cases e : Nat.beq j i with
    | true =>
      have := Nat.eq_of_beq_eq_true e
      subst this
      cases p with
      | nil =>
        have : v = φ j := ha
        rw [this]
        exact hr
      | cons q p => exact .ro (.junk _)
    | false => exact .own j p v ⟨h, beq_false_ne e⟩ ha
  | box j off b h hb =>
    simp only [AV.fz]
    cases e : Nat.beq j i with
    | true =>
      have := Nat.eq_of_beq_eq_true e
      subst this
      rw [cond_true]
      cases r with
      | ref cs =>
        rw [hb] at hr
        have h2 := hr.ref_inv.ref_drop off
        rw [Addr.add_lit, Nat.zero_add] at h2
        exact .ro h2
      | _ => exact .ro (.junk _)
    | false => exact .box j off b ⟨h, beq_false_ne e⟩ hb
  | oref j p sz q c g n cap h ha =>
    simp only [AV.fz]
    cases e : Nat.beq j i with
    | true => exact .ro (.junk _)
    | false => exact .oref j p sz q c g n cap ⟨h, beq_false_ne e⟩ ha
  | part j p sz l n m cap A h ha hl hn hm =>
    simp only [AV.fz]
    cases e : Nat.beq j i with
    | true =>
      have := Nat.eq_of_beq_eq_true e
      subst this
      rw [cond_true]
      unfold ptA
      split
      · rename_i sz' xs
        cases e2 : Nat.beq sz sz' with
        | true =>
          have := Nat.eq_of_beq_eq_true e2
          subst this
          have h1 : Value.slice A m cap = φ j := ha
          rw [← h1] at hr
          have h2 := hr.sl_inv
          have h3 : m = xs.length := by cases h2 <;> rfl
          exact .ro (h2.part l n hl (by omega))
        | false => exact .ro (.junk _)
      · exact .ro (.junk _)
    | false => exact .part j p sz l n m cap A ⟨h, beq_false_ne e⟩ ha hl hn hm
  | agg cs vs hl _ ih =>
    simp only [AV.fz, fzL_map]
    refine .agg _ vs (by simpa using hl) (fun j a u ha hu => ?_)
    rw [List.getElem?_map, Option.map_eq_some_iff] at ha
    obtain ⟨b, hb, rfl⟩ := ha
    exact ih j b u hb hu
  | tup cs vs hl _ ih =>
    simp only [AV.fz, fzL_map]
    refine .tup _ vs (by simpa using hl) (fun j a u ha hu => ?_)
    rw [List.getElem?_map, Option.map_eq_some_iff] at ha
    obtain ⟨b, hb, rfl⟩ := ha
    exact ih j b u hb hu
  | clo g nf cs vf vc hl hn _ ih =>
    simp only [AV.fz, fzL_map]
    refine .clo g nf _ vf vc (by simpa using hl) hn (fun j a u ha hu => ?_)
    rw [List.getElem?_map, Option.map_eq_some_iff] at ha
    obtain ⟨b, hb, rfl⟩ := ha
    exact ih j b u hb hu
def fzE (i : Nat) (r : AV) : List (Nat × AV) → List (Nat × AV)
  | [] => []
  | (t, a) :: l => (t, AV.fz i r a) :: fzE i r l
def fzB (i : Nat) (r : AV) : Obj → Obj
  | .box T cs => .box T (AV.fzL i r cs)
  | o => o
def fzO (i : Nat) (r : AV) : List (Nat × Obj) → List (Nat × Obj)
  | [] => []
  | (j, o) :: l => bif Nat.beq j i then fzO i r l else (j, fzB i r o) :: fzO i r l
theorem lk_fzE (i t : Nat) (r : AV) : ∀ l : List (Nat × AV), lk t (fzE i r l) = (lk t l).map (AV.fz i r)
  | [] => rfl
  | (k, a) :: l => by
    simp only [fzE, lk_cons]
    by_cases h : k = t
    · simp [h]
    · simp [h, lk_fzE i t r l]
theorem lk_fzO (i t : Nat) (r : AV) : ∀ l : List (Nat × Obj), lk t (fzO i r l) = if i = t then none else (lk t l).map (fzB i r)
  | [] => by simp [fzO, lk]
  | (k, a) :: l => by
    have ih := lk_fzO i t r l
    simp only [fzO]
    by_cases h : k = i
    · subst h
      rw [Nat.beq_refl, cond_true, ih, lk_cons]
      by_cases h2 : k = t
      · rw [if_pos h2, if_pos h2]
      · rw [if_neg h2, if_neg h2, if_neg h2]
    · have : Nat.beq k i = false := by
        cases e : Nat.beq k i
        · rfl
        · exact absurd (Nat.eq_of_beq_eq_true e) h
      rw [this, cond_false, lk_cons, lk_cons, ih]
      by_cases h2 : k = t
      · subst h2
        rw [if_pos rfl, if_neg (Ne.symm h), if_pos rfl]
        rfl
      · rw [if_neg h2, if_neg h2]
theorem fixable_fzB {i j : Nat} {r : AV} {o : Obj} : fixable j (fzB i r o) = fixable j o := by cases o <;> rfl
theorem has_fzB {i : Nat} {r : AV} {o : Obj} {p : List Nat} : (fzB i r o).has p ↔ o.has p := by cases o <;> exact Iff.rfl
/-- What a tree is, read. -/
def Tr.ro : Tr → AV
  | .leaf _ sz xs => .sl sz xs
  | .node _ ts => .sl 1 (roT ts)
  | .rv sz xs => .sl sz xs
where roT : List Tr → List (List AV)
  | [] => []
  | t :: r => [t.ro] :: roT r
theorem roT_get : ∀ (ts : List Tr) (j : Nat), (Tr.ro.roT ts)[j]? = (ts[j]?).map fun t => [t.ro]
  | [], j => by simp [Tr.ro.roT]
  | t :: r, 0 => by simp [Tr.ro.roT]
  | t :: r, j + 1 => by simp [Tr.ro.roT, roT_get r j]
theorem roT_len : ∀ (ts : List Tr), (Tr.ro.roT ts).length = ts.length
  | [] => rfl
  | t :: r => by simp [Tr.ro.roT, roT_len r]
theorem roT_map (ts : List Tr) : Tr.ro.roT ts = ts.map fun t => [t.ro] := by
  apply List.ext_getElem?
  intro j
  rw [roT_get, List.getElem?_map]
theorem TreeAt.ro {w : World} {B : Nat} {ok ok1 : Nat → Prop} {t : Tr} {v : Value} {fp : List Nat} (h : TreeAt w B ok t v fp) (hk : ∀ k, ok k → ok1 k) (hf : ∀ k ∈ fp, ok1 k) : RO w ok1 t.ro v := by
  induction h with
  | leaf e sz xs v vs ho hfl =>
    rw [Tr.ro]
    exact own_ro ho hfl hk (fun k hb => hf k (by rw [hb]; simp))
  | rv sz xs v hr =>
    rw [Tr.ro]
    exact hr.move (fun _ _ => rfl) hk
  | node e ts v vs fps ho hl h hnd ih =>
    rw [Tr.ro]
    have hvl : vs.length = ts.length := by rw [ho.1, Nat.mul_one]
    have hget : ∀ (j : Nat) x (c : Nat) a, (Tr.ro.roT ts)[j]? = some x → x[c]? = some a → c = 0 ∧ ∃ t u, ts[j]? = some t ∧ vs[j]? = some u ∧ a = t.ro ∧ RO w ok1 a u := by
      intro j x c a hx ha
      rw [roT_get, Option.map_eq_some_iff] at hx
      obtain ⟨t, ht, rfl⟩ := hx
      have hjl : j < ts.length := (List.getElem?_eq_some_iff.1 ht).1
      have hv1 : vs[j]? = some vs[j] := List.getElem?_eq_getElem (by omega)
      have hf1 : fps[j]? = some fps[j] := List.getElem?_eq_getElem (by omega)
      cases c with
      | zero =>
        obtain rfl : t.ro = a := by simpa using ha
        exact ⟨rfl, t, _, ht, hv1, rfl, ih j t _ _ ht hv1 hf1 (fun k hk => hf k (List.mem_append_right _ (get_flatten hf1 hk)))⟩
      | succ c => simp at ha
    rcases ho.2 with ⟨rfl, h0⟩ | ⟨g, cap, cur, rfl, hB, hg, h1, h2, _⟩
    · have : ts = [] := List.eq_nil_of_length_eq_zero h0
      subst this
      exact .slNil 1
    · have := RO.sl (w := w) (ok := ok1) 1 (Tr.ro.roT ts) ⟨g, 0, none⟩ cap (fun j _ => vs.getD j undef) (by rw [roT_len]; exact h1) h2 (hf g (by simp [blk])) (fun x hx => by
          obtain ⟨j, hj, e⟩ := List.mem_iff_getElem.1 hx
          have h5 := roT_get ts j
          rw [List.getElem?_eq_getElem hj, e] at h5
          obtain ⟨t, _, rfl⟩ := Option.map_eq_some_iff.1 h5.symm
          rfl) (fun j x c a hx ha => by
          obtain ⟨rfl, t, u, ht, hu, rfl, hr⟩ := hget j x c a hx ha
          have e : vs.getD j undef = u := by rw [List.getD_eq_getElem?_getD, hu]; rfl
          have hjl : j < fps.length := by have := (List.getElem?_eq_some_iff.1 ht).1; omega
          obtain ⟨A, n, cp, e2⟩ := (h j t u _ ht hu (List.getElem?_eq_getElem hjl)).slice
          rw [e]
          refine ⟨?_, by rw [e2]; rfl⟩
          have h5 := ho.cells (g := g) rfl j u hu
          rwa [Nat.mul_one, Nat.add_zero]) (fun j x c a hx ha => by
          obtain ⟨rfl, t, u, ht, hu, rfl, hr⟩ := hget j x c a hx ha
          have e : vs.getD j undef = u := by rw [List.getD_eq_getElem?_getD, hu]; rfl
          rw [e]
          exact hr)
      rw [roT_len] at this
      exact this
/-- Object i is given up; r stands for what its root handle is from here on. -/
theorem give_F (C : Ctx) (s : AS) (i : Nat) (r : AV) (o : Obj) (hi : lk i s.objs = some o)
    (hr : ∀ ψ φ a w, SimF C ψ φ s a w → (∀ k, okS C ψ s.objs w k → okS C ψ (fzO i r s.objs) w k) → (∀ k ∈ ψ i, okS C ψ (fzO i r s.objs) w k) → Rep w (okS C ψ (fzO i r s.objs) w) (fun j p => idsS s.objs j p ∧ j ≠ i) ψ φ r (φ i)) (ψ : Nat → List Nat) (φ : Nat → Value) (a : Act) (w : World) (hF : SimF C ψ φ s a w) : SimF C ψ φ ⟨fzE i r s.env, fzO i r s.objs⟩ a w := by
  have hsub : ∀ j oj, lk j (fzO i r s.objs) = some oj → j ≠ i ∧ ∃ x, lk j s.objs = some x ∧ fzB i r x = oj := by
    intro j oj hj
    rw [lk_fzO] at hj
    by_cases e : i = j
    · rw [if_pos e] at hj; cases hj
    · rw [if_neg e, Option.map_eq_some_iff] at hj
      exact ⟨Ne.symm e, hj⟩
  have hmv : Mv w w (fun j p => idsS s.objs j p ∧ j ≠ i) (idsS (fzO i r s.objs)) ψ ψ φ φ := ⟨by
    rintro j p ⟨⟨x, hx, hp⟩, hne⟩
    exact ⟨fzB i r x, by rw [lk_fzO, if_neg (Ne.symm hne), hx]; rfl, has_fzB.2 hp⟩, fun _ _ _ => rfl, fun _ _ _ _ h => h⟩
  have hk : ∀ k, okS C ψ s.objs w k → okS C ψ (fzO i r s.objs) w k := fun k ⟨k1, k2, k3⟩ => ⟨k1, k2, fun j oj hj => let ⟨_, x, hx, _⟩ := hsub j oj hj; k3 j x hx⟩
  have hki : ∀ k ∈ ψ i, okS C ψ (fzO i r s.objs) w k := fun k hk => by
    have hlt := hF.hp.lt hi hk
    exact ⟨.inr hlt.1, hlt.2, fun j oj hj e => let ⟨hne, x, hx, _⟩ := hsub j oj hj; hne (hF.hp.disj j i x o k hx hi e hk)⟩
  have hrr := hr ψ φ a w hF hk hki
  have hrep : ∀ a u, Rep w (okS C ψ s.objs w) (idsS s.objs) ψ φ a u → Rep w (okS C ψ (fzO i r s.objs) w) (idsS (fzO i r s.objs)) ψ φ (AV.fz i r a) u := fun a u h => (h.fz i r hk hrr).move (fun _ _ => rfl) (fun _ h => h) hmv
  refine ⟨hF.defers, hF.size, ⟨hF.hp.below, fun j o2 hj => ?_, fun j j' oj oj' k hj hj' => ?_, fun j oj k hj hk' => let ⟨_, x, hx, _⟩ := hsub j oj hj; hF.hp.own j x k hx hk', fun j u oj hu hj hf => by
    obtain ⟨_, x, hx, rfl⟩ := hsub j _ hj
    exact hF.hp.fix j u x hu hx (by rw [← fixable_fzB (i := i) (r := r)]; exact hf)⟩, fun t av ht => ?_⟩
  · obtain ⟨_, x, hx, rfl⟩ := hsub j o2 hj
    exact boxSim (AV.fz i r) (fzB i r) (fun T cs => by simp [fzB, fzL_map]) (fun _ => rfl) (fun _ => rfl) (hF.hp.objs j x hx) (fun _ _ => rfl) (fun _ _ => rfl) hk hrep
  · obtain ⟨_, x, hx, _⟩ := hsub j oj hj
    obtain ⟨_, x', hx', _⟩ := hsub j' oj' hj'
    exact hF.hp.disj j j' x x' k hx hx'
  · rw [lk_fzE, Option.map_eq_some_iff] at ht
    obtain ⟨x, hx, rfl⟩ := ht
    exact ⟨(hF.env t x hx).1, hrep x _ (hF.env t x hx).2⟩
theorem Le_give (C : Ctx) (s : AS) (i : Nat) (r : AV) (o : Obj) (hi : lk i s.objs = some o)
    (hr : ∀ ψ φ a w, SimF C ψ φ s a w → (∀ k, okS C ψ s.objs w k → okS C ψ (fzO i r s.objs) w k) → (∀ k ∈ ψ i, okS C ψ (fzO i r s.objs) w k) → Rep w (okS C ψ (fzO i r s.objs) w) (fun j p => idsS s.objs j p ∧ j ≠ i) ψ φ r (φ i)) : Le C s ⟨fzE i r s.env, fzO i r s.objs⟩ := fun a w ⟨ψ, φ, hF⟩ => ⟨ψ, φ, give_F C s i r o hi hr ψ φ a w hF⟩
theorem freeze_F (C : Ctx) (s : AS) (i : Nat) {t : Tr} (hi : lk i s.objs = some (.tree t)) (ψ : Nat → List Nat) (φ : Nat → Value) (a : Act) (w : World) (hF : SimF C ψ φ s a w) : SimF C ψ φ ⟨fzE i t.ro s.env, fzO i t.ro s.objs⟩ a w :=
  give_F C s i t.ro _ hi (fun ψ φ a w hF hk hki => .ro (TreeAt.ro (hF.hp.objs i _ hi) hk hki)) ψ φ a w hF
theorem Le_freeze (C : Ctx) (s : AS) (i : Nat) {t : Tr} (hi : lk i s.objs = some (.tree t)) : Le C s ⟨fzE i t.ro s.env, fzO i t.ro s.objs⟩ :=
  Le_give C s i t.ro _ hi (fun ψ φ a w hF hk hki => .ro (TreeAt.ro (hF.hp.objs i _ hi) hk hki))

/-- A variable that is not written any more is read only. -/
theorem Le_freezeB (C : Ctx) (s : AS) (i : Nat) {T : TypeId} {cs : List AV} (hi : lk i s.objs = some (.box T cs)) (hro : AV.roL cs = true) : Le C s ⟨fzE i (.ref cs) s.env, fzO i (.ref cs) s.objs⟩ :=
  Le_give C s i (.ref cs) _ hi (fun ψ φ a w hF hk hki => by
    have hobj := hF.hp.objs i _ hi
    obtain ⟨b, cur, e1, e2, e3, e4, e5, e6, e7⟩ := hobj
    rw [e1] at *
    have hobj2 : ObjAt w 0 (okS C ψ s.objs w) (idsS s.objs) ψ φ (.box T cs) (.pointer (some ⟨b, 0, none⟩)) (ψ i) := ⟨b, cur, rfl, e2, e3, e4, e5, e6, e7⟩
    obtain ⟨hbf, us, hus⟩ := box_cells hobj2
    refine .ro (.ref cs ⟨b, 0, none⟩ us (hki b hbf) (fun c av hc => ?_) (fun c av hc => ?_))
    · rw [Addr.add_lit, Nat.zero_add]
      exact ⟨(hus c av hc).1, (hus c av hc).2.1⟩
    · exact ((hus c av hc).2.2.ro_of (roL_mem cs hro av (List.mem_of_getElem? hc))).move (fun _ _ => rfl) hk)

/-! ### 23. Nil is owned; a smaller state; a new name -/
/-- The nil slice in slot t is an empty row i of the call's own. -/
theorem Le_adopt (C : Ctx) (s : AS) (t i : Nat) (tr : Tr) (ht : lk t s.env = some (.val (.slice none 0 0))) (hi : lk i s.objs = none) (htr : (∃ e sz, tr = .leaf e sz []) ∨ ∃ e, tr = .node e []) (h2m : Nat.blt i 2000000 = true := by exact rfl) : Le C s ⟨(t, .own i []) :: s.env, (i, .tree tr) :: s.objs⟩ := by
  rintro a w ⟨ψ, φ, hF⟩
  have h1 := hF.new (Below.refl _ w) i (.tree tr) (.slice none 0 0) [] hi (nofix (small_tree h2m)) (fun k hk => by cases hk) (fun ok ids ψ' φ' _ _ => by
    rcases htr with ⟨e, sz, rfl⟩ | ⟨e, rfl⟩
    · exact TreeAt.leaf e sz [] (.slice none 0 0) [] (World.ownsRow_nil w _ e sz) (Flat.nil _ _ _)
    · exact TreeAt.node e [] (.slice none 0 0) [] [] (World.ownsRow_nil w _ e 1) rfl (fun j t u f h => by simp at h) (by simp [blk]))
  refine ⟨_, _, h1.defers, h1.size, h1.hp, fun t' av h => ?_⟩
  rw [lk_cons] at h
  by_cases e' : t = t'
  · subst e'
    rw [if_pos rfl] at h
    obtain rfl := Option.some.inj h
    have h2 : a.tmps.getD t undef = .slice none 0 0 := hF.ev_val (x := .tmp t) ht
    exact ⟨(hF.env t _ ht).1, .own i [] _ (idsS_root _ _ _) (by rw [ups_self, ups_self, h2]; rfl)⟩
  · rw [if_neg e'] at h
    exact h1.env t' av h
def subE : List (Nat × AV) → List (Nat × AV) → Prop
  | [], _ => True
  | (t, a) :: r, e => lk t e = some a ∧ subE r e
def subO : List (Nat × Obj) → List (Nat × Obj) → Prop
  | [], _ => True
  | (i, o) :: r, e => lk i e = some o ∧ subO r e
mutual
def AV.within (l : List Nat) : AV → Bool
  | .own j _ => l.elem j
  | .box j _ => l.elem j
  | .oref j _ _ _ _ => l.elem j
  | .agg cs => AV.withinL l cs
  | .tup cs => AV.withinL l cs
  | .clo _ _ cs => AV.withinL l cs
  | .part j _ _ _ _ => l.elem j
  | _ => true
def AV.withinL (l : List Nat) : List AV → Bool
  | [] => true
  | a :: r => a.within l && AV.withinL l r
end
theorem withinL_mem (l : List Nat) : ∀ (cs : List AV), AV.withinL l cs = true → ∀ a ∈ cs, a.within l = true
  | [], _, a, h => by cases h
  | b :: r, h, a, ha => by
    simp only [AV.withinL, Bool.and_eq_true] at h
    rcases List.mem_cons.1 ha with rfl | ha
    · exact h.1
    · exact withinL_mem l r h.2 a ha
theorem Rep.within {w : World} {ok : Nat → Prop} {ids : Nat → List Nat → Prop} {ψ : Nat → List Nat} {φ : Nat → Value} {a : AV} {v : Value} (h : Rep w ok ids ψ φ a v) {l : List Nat} (hw : a.within l = true) : Rep w ok (fun j p => ids j p ∧ j ∈ l) ψ φ a v := by
  induction h with
  | ro h => exact .ro h
  | own j p v h ha => exact .own j p v ⟨h, by simpa [AV.within] using hw⟩ ha
  | box j off b h hb => exact .box j off b ⟨h, by simpa [AV.within] using hw⟩ hb
  | oref j p sz q c g n cap h ha => exact .oref j p sz q c g n cap ⟨h, by simpa [AV.within] using hw⟩ ha
  | part j p sz q n m cap A h ha hl hn hm => exact .part j p sz q n m cap A ⟨h, by simpa [AV.within] using hw⟩ ha hl hn hm
  | agg cs vs hl _ ih => exact .agg cs vs hl (fun j a u ha hu => ih j a u ha hu (withinL_mem l cs hw a (List.mem_of_getElem? ha)))
  | tup cs vs hl _ ih => exact .tup cs vs hl (fun j a u ha hu => ih j a u ha hu (withinL_mem l cs hw a (List.mem_of_getElem? ha)))
  | clo g nf cs vf vc hl hn _ ih => exact .clo g nf cs vf vc hl hn (fun j a u ha hu => ih j a u ha hu (withinL_mem l cs hw a (List.mem_of_getElem? ha)))
def withinE (l : List Nat) : List (Nat × AV) → Bool
  | [] => true
  | (_, a) :: r => a.within l && withinE l r
def withinO (l : List Nat) : List (Nat × Obj) → Bool
  | [] => true
  | (_, .box _ cs) :: r => AV.withinL l cs && withinO l r
  | _ :: r => withinO l r
def keys {β : Type} : List (Nat × β) → List Nat
  | [] => []
  | (i, _) :: r => i :: keys r
theorem lk_keys {β : Type} (i : Nat) : ∀ l : List (Nat × β), i ∈ keys l → ∃ o, lk i l = some o
  | [], h => by cases h
  | (j, b) :: r, h => by
    rw [lk_cons]
    by_cases e : j = i
    · exact ⟨b, if_pos e⟩
    · rw [if_neg e]
      exact lk_keys i r (by
        rcases List.mem_cons.1 h with h | h
        · exact absurd h.symm e
        · exact h)
theorem subE_lk {t : Nat} {a : AV} {e : List (Nat × AV)} : ∀ {l : List (Nat × AV)}, subE l e → lk t l = some a → lk t e = some a
  | [], _, h => by cases h
  | (k, b) :: r, hs, h => by
    rw [lk_cons] at h
    by_cases e' : k = t
    · rw [if_pos e'] at h
      rw [← h, ← e']
      exact hs.1
    · rw [if_neg e'] at h
      exact subE_lk hs.2 h
theorem subO_lk {t : Nat} {a : Obj} {e : List (Nat × Obj)} : ∀ {l : List (Nat × Obj)}, subO l e → lk t l = some a → lk t e = some a
  | [], _, h => by cases h
  | (k, b) :: r, hs, h => by
    rw [lk_cons] at h
    by_cases e' : k = t
    · rw [if_pos e'] at h
      rw [← h, ← e']
      exact hs.1
    · rw [if_neg e'] at h
      exact subO_lk hs.2 h
theorem withinE_lk {t : Nat} {a : AV} {k : List Nat} : ∀ {l : List (Nat × AV)}, withinE k l = true → lk t l = some a → a.within k = true
  | [], _, h => by cases h
  | (q, b) :: r, hs, h => by
    simp only [withinE, Bool.and_eq_true] at hs
    rw [lk_cons] at h
    by_cases e' : q = t
    · rw [if_pos e'] at h
      rw [← Option.some.inj h]
      exact hs.1
    · rw [if_neg e'] at h
      exact withinE_lk hs.2 h
theorem withinO_lk {t T : Nat} {cs : List AV} {k : List Nat} : ∀ {l : List (Nat × Obj)}, withinO k l = true → lk t l = some (.box T cs) → AV.withinL k cs = true
  | [], _, h => by cases h
  | (q, b) :: r, hs, h => by
    rw [lk_cons] at h
    by_cases e' : q = t
    · rw [if_pos e'] at h
      obtain rfl := Option.some.inj h
      simp only [withinO, Bool.and_eq_true] at hs
      exact hs.1
    · rw [if_neg e'] at h
      refine withinO_lk (l := r) ?_ h
      cases b with
      | tree => exact hs
      | mp => exact hs
      | box T' cs' =>
        simp only [withinO, Bool.and_eq_true] at hs
        exact hs.2
/-- A heap that says less. -/
theorem Hp.sub {C : Ctx} {ψ : Nat → List Nat} {φ : Nat → Value} {os os' : List (Nat × Obj)} {w : World} (h : Hp C ψ φ os w) (ho : subO os' os) (h2 : withinO (keys os') os' = true) :
    Hp C ψ φ os' w ∧ (∀ k, okS C ψ os w k → okS C ψ os' w k) ∧ Mv w w (fun j p => idsS os j p ∧ j ∈ keys os') (idsS os') ψ ψ φ φ := by
  have hk : ∀ k, okS C ψ os w k → okS C ψ os' w k := fun k ⟨k1, k2, k3⟩ => ⟨k1, k2, fun j oj hj => k3 j oj (subO_lk ho hj)⟩
  have hmv : Mv w w (fun j p => idsS os j p ∧ j ∈ keys os') (idsS os') ψ ψ φ φ := ⟨fun j p ⟨⟨x, hx, hp⟩, hj⟩ => by
    obtain ⟨o, ho'⟩ := lk_keys j os' hj
    have := subO_lk ho ho'
    rw [hx] at this
    obtain rfl := Option.some.inj this
    exact ⟨_, ho', hp⟩, fun _ _ _ => rfl, fun _ _ _ _ h => h⟩
  refine ⟨⟨h.below, fun i o hi => ?_, fun i j oi oj k hi hj => h.disj i j oi oj k (subO_lk ho hi) (subO_lk ho hj), fun i oi k hi => h.own i oi k (subO_lk ho hi), fun i u oi hu hi => h.fix i u oi hu (subO_lk ho hi)⟩, hk, hmv⟩
  have hx := h.objs i o (subO_lk ho hi)
  cases o with
  | tree t => exact TreeAt.move hx (fun _ _ => rfl) (fun _ _ => rfl) hk
  | mp ks => exact MpAt.move hx (fun _ _ => rfl)
  | box T cs =>
    obtain ⟨b, cur, e3, e4, hB, hc, hs, h1', hr⟩ := hx
    exact ⟨b, cur, e3, e4, hB, hc, hs, h1', fun q av u ha hu => ((hr q av u ha hu).within (withinL_mem _ cs (withinO_lk h2 hi) av (List.mem_of_getElem? ha))).move (fun _ _ => rfl) hk hmv⟩
/-- A state that says less. -/
theorem Le_sub (C : Ctx) (s s' : AS) (he : subE s'.env s.env) (ho : subO s'.objs s.objs) (h1 : withinE (keys s'.objs) s'.env = true) (h2 : withinO (keys s'.objs) s'.objs = true) : Le C s s' := by
  rintro a w ⟨ψ, φ, hF⟩
  obtain ⟨p1, hk, hmv⟩ := hF.hp.sub ho h2
  refine ⟨ψ, φ, hF.defers, hF.size, p1, fun t av ht => ?_⟩
  have hx := hF.env t av (subE_lk he ht)
  exact ⟨hx.1, (hx.2.within (withinE_lk h1 ht)).move (fun _ _ => rfl) hk hmv⟩
end
end Go.Proofs.YtmiijpobhajfmaaGreat.J
namespace Go.Proofs.YtmiijpobhajfmaaGreat.J
open Go Go.RowKit
set_option linter.unusedVariables false
set_option linter.unusedSimpArgs false

/-! ### 24. A new name -/
theorem Le_ren (C : Ctx) (s : AS) (i j : Nat) {t : Tr} (hi : lk i s.objs = some (.tree t)) (hj : lk j s.objs = none) (h2m : fixable j (.tree t) = true → C.fix j = none) : Le C s ⟨fzE i (.own j []) s.env, (j, .tree t) :: fzO i (.own j []) s.objs⟩ := by
  rintro a w ⟨ψ, φ, hF⟩
  have hne0 : ∀ q oq, lk q s.objs = some oq → q ≠ j := by
    rintro q oq hq rfl
    rw [hj] at hq
    cases hq
  have hij : i ≠ j := hne0 i _ hi
  have hsub : ∀ q oq, q ≠ j → lk q ((j, .tree t) :: fzO i (.own j []) s.objs) = some oq → q ≠ i ∧ ∃ x, lk q s.objs = some x ∧ fzB i (.own j []) x = oq := by
    intro q oq hqj hq
    rw [lk_cons, if_neg (Ne.symm hqj), lk_fzO] at hq
    by_cases e : i = q
    · rw [if_pos e] at hq; cases hq
    · rw [if_neg e, Option.map_eq_some_iff] at hq
      exact ⟨Ne.symm e, hq⟩
  have hmv : Mv w w (fun q p => idsS s.objs q p ∧ q ≠ i) (idsS ((j, .tree t) :: fzO i (.own j []) s.objs)) ψ (ups ψ j (ψ i)) φ (ups φ j (φ i)) := Mv.of_same (by
    rintro q p ⟨⟨x, hx, hp⟩, hne⟩
    exact ⟨fzB i (.own j []) x, by rw [lk_cons, if_neg (Ne.symm (hne0 q x hx)), lk_fzO, if_neg (Ne.symm hne), hx]; rfl, has_fzB.2 hp⟩) (by
    rintro q p ⟨⟨x, hx, hp⟩, hne⟩
    exact ⟨ups_ne _ _ (hne0 q x hx), ups_ne _ _ (hne0 q x hx)⟩) (fun _ _ _ _ _ => rfl)
  have hk : ∀ k, okS C ψ s.objs w k → okS C (ups ψ j (ψ i)) ((j, .tree t) :: fzO i (.own j []) s.objs) w k := fun k ⟨k1, k2, k3⟩ => ⟨k1, k2, fun q oq hq => by
    by_cases e : q = j
    · subst e
      rw [ups_self]
      exact k3 i _ hi
    · rw [ups_ne _ _ e]
      obtain ⟨_, x, hx, _⟩ := hsub q oq e hq
      exact k3 q x hx⟩
  have hrep : ∀ a u, Rep w (okS C ψ s.objs w) (idsS s.objs) ψ φ a u → Rep w (okS C (ups ψ j (ψ i)) ((j, .tree t) :: fzO i (.own j []) s.objs) w) (idsS ((j, .tree t) :: fzO i (.own j []) s.objs)) (ups ψ j (ψ i)) (ups φ j (φ i)) (AV.fz i (.own j []) a) u := by
    intro a u h
    induction h with
    | ro h => exact .ro ((h.move (fun _ _ => rfl) hk).fz i _)
    | own q p v h ha =>
      simp only [AV.fz]
      cases e : Nat.beq q i with
      | true =>
        have := Nat.eq_of_beq_eq_true e
        subst this
        cases p with
        | nil =>
          have : v = φ q := ha
          subst this
          exact .own j [] _ (idsS_root _ _ _) (by rw [ups_self, ups_self]; rfl)
        | cons q p => exact .ro (.junk _)
      | false => exact .own q p v (hmv.id_ q p ⟨h, beq_false_ne e⟩) (by rw [hmv.val q p ⟨h, beq_false_ne e⟩]; exact hmv.at_ q p v ⟨h, beq_false_ne e⟩ ha)
    | box q off b h hb =>
      simp only [AV.fz]
      cases e : Nat.beq q i with
      | true => exact .ro (.junk _)
      | false => exact .box q off b (hmv.id_ q [] ⟨h, beq_false_ne e⟩) (by rw [hmv.val q [] ⟨h, beq_false_ne e⟩]; exact hb)
    | oref q p sz c d g n cap h ha =>
      simp only [AV.fz]
      cases e : Nat.beq q i with
      | true => exact .ro (.junk _)
      | false => exact .oref q p sz c d g n cap (hmv.id_ q p ⟨h, beq_false_ne e⟩) (by rw [hmv.val q p ⟨h, beq_false_ne e⟩]; exact hmv.at_ q p _ ⟨h, beq_false_ne e⟩ ha)
    | part q p sz l n m cap A h ha hl hn hm =>
      simp only [AV.fz]
      cases e : Nat.beq q i with
      | true =>
        rw [cond_true]
        unfold ptA
        split
        · rename_i h1; cases h1
        · exact .ro (.junk _)
      | false => exact .part q p sz l n m cap A (hmv.id_ q p ⟨h, beq_false_ne e⟩) (by rw [hmv.val q p ⟨h, beq_false_ne e⟩]; exact hmv.at_ q p _ ⟨h, beq_false_ne e⟩ ha) hl hn hm
    | agg cs vs hl _ ih =>
      simp only [AV.fz, fzL_map]
      refine .agg _ vs (by simpa using hl) (fun j a u ha hu => ?_)
      rw [List.getElem?_map, Option.map_eq_some_iff] at ha
      obtain ⟨b, hb, rfl⟩ := ha
      exact ih j b u hb hu
    | tup cs vs hl _ ih =>
      simp only [AV.fz, fzL_map]
      refine .tup _ vs (by simpa using hl) (fun j a u ha hu => ?_)
      rw [List.getElem?_map, Option.map_eq_some_iff] at ha
      obtain ⟨b, hb, rfl⟩ := ha
      exact ih j b u hb hu
    | clo g nf cs vf vc hl hn _ ih =>
      simp only [AV.fz, fzL_map]
      refine .clo g nf _ vf vc (by simpa using hl) hn (fun j a u ha hu => ?_)
      rw [List.getElem?_map, Option.map_eq_some_iff] at ha
      obtain ⟨b, hb, rfl⟩ := ha
      exact ih j b u hb hu
  refine ⟨ups ψ j (ψ i), ups φ j (φ i), hF.defers, hF.size, ⟨hF.hp.below, fun q oq hq => ?_, fun q q' oq oq' k hq hq' h1 h2 => ?_, fun q oq k hq h1 => ?_, fun q u oq hu hq hf => ?_⟩, fun t' av ht => ?_⟩
  · by_cases e : q = j
    · subst e
      rw [lk_cons, if_pos rfl] at hq
      obtain rfl := Option.some.inj hq
      rw [ups_self, ups_self]
      exact TreeAt.move (hF.hp.objs i _ hi) (fun _ _ => rfl) (fun _ _ => rfl) hk
    · obtain ⟨_, x, hx, rfl⟩ := hsub q oq e hq
      rw [ups_ne _ _ e, ups_ne _ _ e]
      exact boxSim (AV.fz i (.own j [])) (fzB i (.own j [])) (fun T cs => by simp [fzB, fzL_map]) (fun _ => rfl) (fun _ => rfl) (hF.hp.objs q x hx) (fun _ _ => rfl) (fun _ _ => rfl) hk hrep
  · by_cases e : q = j
    · by_cases e' : q' = j
      · rw [e, e']
      · rw [e, ups_self] at h1
        rw [ups_ne _ _ e'] at h2
        obtain ⟨hne, x, hx, _⟩ := hsub q' oq' e' hq'
        exact absurd (hF.hp.disj q' i x _ k hx hi h2 h1) hne
    · rw [ups_ne _ _ e] at h1
      obtain ⟨hne, x, hx, _⟩ := hsub q oq e hq
      by_cases e' : q' = j
      · rw [e', ups_self] at h2
        exact absurd (hF.hp.disj q i x _ k hx hi h1 h2) hne
      · rw [ups_ne _ _ e'] at h2
        obtain ⟨_, x', hx', _⟩ := hsub q' oq' e' hq'
        exact hF.hp.disj q q' x x' k hx hx' h1 h2
  · by_cases e : q = j
    · rw [e, ups_self] at h1
      exact hF.hp.own i _ k hi h1
    · rw [ups_ne _ _ e] at h1
      obtain ⟨_, x, hx, _⟩ := hsub q oq e hq
      exact hF.hp.own q x k hx h1
  · by_cases e : q = j
    · subst e
      rw [lk_cons, if_pos rfl] at hq
      obtain rfl := Option.some.inj hq
      rw [h2m hf] at hu
      cases hu
    · rw [ups_ne _ _ e]
      obtain ⟨_, x, hx, rfl⟩ := hsub q _ e hq
      exact hF.hp.fix q u x hu hx (by rw [← fixable_fzB (i := i) (r := .own j [])]; exact hf)
  · rw [lk_fzE, Option.map_eq_some_iff] at ht
    obtain ⟨x, hx, rfl⟩ := ht
    exact ⟨(hF.env t' x hx).1, hrep x _ (hF.env t' x hx).2⟩

/-! ### 25. Contracts -/
/-- A call's frame, where nothing is lent to it. -/
def mkC (w : World) (n : Nat) (ok : Nat → Prop) (hok : ∀ k, ok k → k < w.heap.size) : Ctx := ⟨w, min n 1000000, ok, fun _ => False, fun _ => none, hok, (fun _ _ h => by cases h), Nat.min_le_right _ _⟩
/-- Called with these values, the function returns this value; what it has made is L. -/
def Spec (P : Program) (f : FuncId) (ins : List AV) (ra : AV) (L : List (Nat × Obj)) : Prop :=
  ∀ (w : World) (n : Nat) (ok : Nat → Prop) (hok : ∀ k, ok k → k < w.heap.size) (vs : Array Value), vs.size = ins.length → (∀ (j : Nat) a u, ins[j]? = some a → vs[j]? = some u → RO w ok a u) →
    Calls P f vs w fun e w' => ∃ v ψ φ, e = .returned v ∧ Hp (mkC w n ok hok) ψ φ L w' ∧ Rep w' (okS (mkC w n ok hok) ψ L w') (idsS L) ψ φ ra v

/-- What is returned, at a function's end. -/
def Fin (P : Program) (C : Ctx) (fn : Func) (ra : AV) (L : List (Nat × Obj)) (s : AS) : Prop := ∀ a w, Sim C s a w → ∃ v ψ φ, (results fn a.tmps).run P w = .ok v w ∧ Hp C ψ φ L w ∧ Rep w (okS C ψ L w) (idsS L) ψ φ ra v
def enumE : Nat → List AV → List (Nat × AV)
  | _, [] => []
  | k, a :: r => (k, a) :: enumE (k + 1) r
theorem lk_enumE (t : Nat) : ∀ (l : List AV) (k : Nat), lk t (enumE k l) = if k ≤ t then l[t - k]? else none
  | [], k => by simp [enumE, lk]
  | a :: r, k => by
    rw [enumE, lk_cons, lk_enumE t r (k + 1)]
    by_cases h : k = t
    · subst h; simp
    · rw [if_neg h]
      by_cases h2 : k ≤ t
      · rw [if_pos h2, if_pos (by omega)]
        have : t - k = (t - (k + 1)) + 1 := by omega
        rw [this]
        simp
      · rw [if_neg h2, if_neg (by omega)]
section
variable {P : Program} {C : Ctx} {s : AS} {o : Oper}
theorem Spec.intro {f : FuncId} {fn : Func} {c : Code} {ins : List AV} {ra : AV} {L : List (Nat × Obj)} (hf : P.funcs[f]? = some fn) (hb : fn.body = some c) (hn : ins.length ≤ fn.ntmps)
    (h : ∀ C : Ctx, C.n = fn.ntmps → (∀ i, C.fix i = none) → J P C ⟨Fin P C fn ra L, Fin P C fn ra L, fun _ _ => False⟩ c ⟨enumE 0 ins, []⟩) (h6 : fn.ntmps ≤ 1000000 := by exact Nat.le_of_ble_eq_true rfl) : Spec P f ins ra L := by
  intro w n ok hok vs hsz hro
  have hmin : min fn.ntmps 1000000 = fn.ntmps := Nat.min_eq_left h6
  have hJ := h (mkC w fn.ntmps ok hok) hmin (fun _ => rfl)
  refine calls_of_wp hf hb (wp_mono (hJ { tmps := vs ++ Array.replicate (fn.ntmps - vs.size) undef, defers := [] } w ⟨fun _ => [], fun _ => undef, rfl, by simp [hsz, mkC]; omega, ⟨Ch.refl _ _, (fun i o hi => by cases hi), (fun i j oi oj k hi => by cases hi), (fun i o k hi => by cases hi), (fun i u oi hu => by cases hu)⟩, fun t av ht => ?_⟩) (fun e a w' q => ?_))
  · rw [lk_enumE, if_pos (Nat.zero_le _), Nat.sub_zero] at ht
    have htl : t < ins.length := (List.getElem?_eq_some_iff.1 ht).1
    refine ⟨by show t < min _ _; rw [hmin]; exact Nat.lt_of_lt_of_le htl hn, .ro ?_⟩
    have htv : t < vs.size := by omega
    have e : (vs ++ Array.replicate (fn.ntmps - vs.size) undef).getD t undef = vs[t] := by
      rw [Array.getD_eq_getD_getElem?, Array.getElem?_append_left htv, Array.getElem?_eq_getElem htv]
      rfl
    show RO w _ av ((vs ++ Array.replicate (fn.ntmps - vs.size) undef).getD t undef)
    rw [e]
    exact (hro t av _ ht (Array.getElem?_eq_getElem htv)).move (fun _ _ => rfl) (fun k hk => ⟨.inl hk, hok k hk, fun i o hi => by cases hi⟩)
  · have hres : ∀ s1, Fin P (mkC w fn.ntmps ok hok) fn ra L s1 → Sim (mkC w fn.ntmps ok hok) s1 a w' → a.defers = [] ∧ ∃ v, (results fn a.tmps).run P w' = .ok v w' ∧ ∃ v' ψ φ, Ending.returned v = .returned v' ∧ Hp (mkC w n ok hok) ψ φ L w' ∧ Rep w' (okS (mkC w n ok hok) ψ L w') (idsS L) ψ φ ra v' := by
      intro s1 h1 h2
      obtain ⟨v, ψ, φ, hr, hp, hrep⟩ := h1 a w' h2
      obtain ⟨ψ0, φ0, hF⟩ := h2
      exact ⟨hF.defers, v, hr, v, ψ, φ, rfl, ⟨hp.below, hp.objs, hp.disj, hp.own, fun i u oi hu => by cases hu⟩, hrep⟩
    cases e with
    | normal => obtain ⟨s1, h1, h2⟩ := q; exact hres s1 h1 h2
    | ret => obtain ⟨s1, h1, h2⟩ := q; exact hres s1 h1 h2
    | exit i => obtain ⟨s1, h1, h2⟩ := q; exact h1.elim
    | goto l => exact q.elim
    | panic ch => exact q.elim
    | outgrown => exact q.elim
theorem Fin_one {fn : Func} {t : Nat} {ra : AV} {L : List (Nat × Obj)} (hr : fn.results = #[.tmp t]) (h : Le C s ⟨[(t, ra)], L⟩) : Fin P C fn ra L s := fun a w hs => by
  obtain ⟨ψ, φ, hF⟩ := h a w hs
  exact ⟨_, ψ, φ, by simp [results, hr], hF.hp, (hF.env t ra (by rw [lk_cons, if_pos rfl])).2⟩
theorem Fin_none {fn : Func} {L : List (Nat × Obj)} (hr : fn.results = #[]) (h : Le C s ⟨[], L⟩) : Fin P C fn (.tup []) L s := fun a w hs => by
  obtain ⟨ψ, φ, hF⟩ := h a w hs
  exact ⟨.tuple #[], ψ, φ, by simp [results, hr], hF.hp, .tup [] #[] rfl (fun j a u h => by simp at h)⟩
theorem Fin_two {fn : Func} {t u : Nat} {ra rb : AV} {L : List (Nat × Obj)} (hr : fn.results = #[.tmp t, .tmp u]) (h : Le C s ⟨[(t, ra), (u, rb)], L⟩) (hne : Nat.beq t u = false) : Fin P C fn (.tup [ra, rb]) L s := fun a w hs => by
  obtain ⟨ψ, φ, hF⟩ := h a w hs
  refine ⟨.tuple #[a.tmps.getD t undef, a.tmps.getD u undef], ψ, φ, by simp [results, hr], hF.hp, .tup _ _ rfl (fun j b v hb hv => ?_)⟩
  cases j with
  | zero =>
    obtain rfl : ra = b := by simpa using hb
    obtain rfl : a.tmps.getD t undef = v := by simpa using hv
    exact (hF.env t ra (by rw [lk_cons, if_pos rfl])).2
  | succ j =>
    cases j with
    | zero =>
      obtain rfl : rb = b := by simpa using hb
      obtain rfl : a.tmps.getD u undef = v := by simpa using hv
      exact (hF.env u rb (by rw [lk_cons, if_neg (beq_false_ne hne), lk_cons, if_pos rfl])).2
    | succ j => simp at hb

/-! ### 26. A call -/
def AV.roD : AV → Bool
  | .val _ => true
  | .sl _ _ => true
  | .ref _ => true
  | .junk => true
  | .agg cs => AV.roL cs
  | .clo _ _ cs => AV.roL cs
  | _ => false
theorem Rep.ro_deep {w : World} {ok : Nat → Prop} {ids : Nat → List Nat → Prop} {ψ : Nat → List Nat} {φ : Nat → Value} {a : AV} {v : Value} (h : Rep w ok ids ψ φ a v) (ho : a.roD = true) : RO w ok a v := by
  cases h with
  | ro h => exact h
  | agg cs vs hl h => exact .agg cs vs hl (fun j a u ha hu => (h j a u ha hu).ro_of (roL_mem cs ho a (List.mem_of_getElem? ha)))
  | clo g nf cs vf vc hl hn h => exact .clo g nf cs vf vc hl hn (fun j a u ha hu => (h j a u ha hu).ro_of (roL_mem cs ho a (List.mem_of_getElem? ha)))
  | _ => cases ho
def evL (s : AS) : List Operand → List AV → Prop
  | [], [] => True
  | x :: r, a :: t => ev s x = some a ∧ a.roD = true ∧ evL s r t
  | _, _ => False
theorem evL_len {s : AS} : ∀ {l : List Operand} {ins : List AV}, evL s l ins → l.length = ins.length
  | [], [], _ => rfl
  | _ :: _, _ :: _, h => by simp [evL_len h.2.2]
theorem evL_get {ψ : Nat → List Nat} {φ : Nat → Value} {a : Act} {w : World} (hF : SimF C ψ φ s a w) : ∀ {l : List Operand} {ins : List AV}, evL s l ins → ∀ (j : Nat) b u, ins[j]? = some b → (l.map a.eval)[j]? = some u → RO w (okS C ψ s.objs w) b u
  | [], [], _, j, b, u, h, _ => by simp at h
  | x :: r, c :: t, h, 0, b, u, hb, hu => by
    obtain rfl : c = b := by simpa using hb
    obtain rfl : a.eval x = u := by simpa using hu
    exact (hF.ev h.1).ro_deep h.2.1
  | x :: r, c :: t, h, j + 1, b, u, hb, hu => evL_get hF h.2.2 j b u (by simpa using hb) (by simpa using hu)
theorem run_callFunc {f : FuncId} {fn : Func} (hf : P.funcs[f]? = some fn) (hb : fn.body.isNone = false) (hnm : (fn.name == "runtime.NumGoroutine") = false) (vs : Array Value) (w : World) : (callFunc f vs).run P w = .ok (.enter f vs) w := by
  have hnm' : (fn.name == "runtime.NumGoroutine") = false := hnm
  simp only [callFunc, Sem.run_bind, run_program, Result.andThen_ok, hf, hnm', hb, Bool.false_eq_true, if_false, Sem.run_pure]
theorem run_call {f : FuncId} {args : List Operand} {tys : Array TypeId} {fn : Func} (ho : o.op = .call { callee := .value (.func f), args := args.toArray, argTypes := tys }) (hf : P.funcs[f]? = some fn) (hb : fn.body.isNone = false) (hnm : (fn.name == "runtime.NumGoroutine") = false) (a : Act) (w : World) :
    (execOp a.eval o).run P w = .ok (.enter f (args.map a.eval).toArray) w := by
  simp only [execOp, ho, resolve, Act.eval, Deferred.ofValue, Sem.run_bind, Sem.run_pure, Result.andThen_ok, invoke]
  have : (#[] ++ Array.map a.eval args.toArray ++ #[] : Array Value) = (args.map a.eval).toArray := by simp
  rw [this]
  exact run_callFunc hf hb hnm _ w
def shN (d i : Nat) : Nat := d + 1000 * i
mutual
def AV.sh (d : Nat) : AV → AV
  | .own i p => .own (shN d i) p
  | .box i f => .box (shN d i) f
  | .oref i p a b c => .oref (shN d i) p a b c
  | .agg cs => .agg (AV.shL d cs)
  | .tup cs => .tup (AV.shL d cs)
  | .clo g nf cs => .clo g nf (AV.shL d cs)
  | .part i p a b c => .part (shN d i) p a b c
  | .junk => .junk
  | .val v => .val v
  | .sl a b => .sl a b
  | .ref cs => .ref cs
def AV.shL (d : Nat) : List AV → List AV
  | [] => []
  | a :: r => AV.sh d a :: AV.shL d r
end
theorem shL_map (d : Nat) : ∀ cs, AV.shL d cs = cs.map (AV.sh d)
  | [] => rfl
  | a :: r => by simp [AV.shL, shL_map d r]
def shB (d : Nat) : Obj → Obj
  | .box T cs => .box T (AV.shL d cs)
  | o => o
def shO (d : Nat) : List (Nat × Obj) → List (Nat × Obj)
  | [] => []
  | (i, o) :: r => (shN d i, shB d o) :: shO d r
theorem RO.sh {w : World} {ok : Nat → Prop} {a : AV} {v : Value} (h : RO w ok a v) (d : Nat) : RO w ok (AV.sh d a) v := by
  induction h with
  | junk v => simp only [AV.sh]; exact .junk v
  | val v => simp only [AV.sh]; exact .val v
  | agg cs vs hl h ih =>
    simp only [AV.sh, shL_map]
    refine .agg _ vs (by simpa using hl) (fun j a u ha hu => ?_)
    rw [List.getElem?_map, Option.map_eq_some_iff] at ha
    obtain ⟨b, hb, rfl⟩ := ha
    exact ih j b u hb hu
  | tup cs vs hl h ih =>
    simp only [AV.sh, shL_map]
    refine .tup _ vs (by simpa using hl) (fun j a u ha hu => ?_)
    rw [List.getElem?_map, Option.map_eq_some_iff] at ha
    obtain ⟨b, hb, rfl⟩ := ha
    exact ih j b u hb hu
  | clo g nf cs vf vc hl hn h ih =>
    simp only [AV.sh, shL_map]
    refine .clo g nf _ vf vc (by simpa using hl) hn (fun j a u ha hu => ?_)
    rw [List.getElem?_map, Option.map_eq_some_iff] at ha
    obtain ⟨b, hb, rfl⟩ := ha
    exact ih j b u hb hu
  | slNil sz => simp only [AV.sh]; exact .slNil sz
  | sl sz xs ad cap us hn hc hok hsz hcell h _ => simp only [AV.sh]; exact .sl sz xs ad cap us hn hc hok hsz hcell h
  | ref cs ad us hok hcell h _ => simp only [AV.sh]; exact .ref cs ad us hok hcell h
theorem shN_inj {d i j : Nat} (h : shN d i = shN d j) : i = j := by unfold shN at h; omega
theorem lk_shO (d i : Nat) : ∀ l : List (Nat × Obj), lk (shN d i) (shO d l) = (lk i l).map (shB d)
  | [] => rfl
  | (k, o) :: r => by
    rw [shO, lk_cons, lk_cons, lk_shO d i r]
    by_cases h : k = i
    · rw [if_pos h, if_pos (by rw [h])]; rfl
    · rw [if_neg h, if_neg (fun e => h (shN_inj e))]
theorem lk_shO_inv (d j : Nat) : ∀ (l : List (Nat × Obj)) o, lk j (shO d l) = some o → ∃ i, j = shN d i
  | [], o, h => by cases h
  | (k, o') :: r, o, h => by
    rw [shO, lk_cons] at h
    by_cases e : shN d k = j
    · exact ⟨k, e.symm⟩
    · rw [if_neg e] at h
      exact lk_shO_inv d j r o h
theorem lk_append {β : Type} (t : Nat) : ∀ (l r : List (Nat × β)), lk t (l ++ r) = match lk t l with | some x => some x | none => lk t r
  | [], r => rfl
  | (k, v) :: l, r => by
    rw [List.cons_append, lk_cons, lk_cons, lk_append t l r]
    by_cases h : k = t
    · rw [if_pos h, if_pos h]
    · rw [if_neg h, if_neg h]
/-- They have small names. -/
def small (d : Nat) : List (Nat × Obj) → Bool
  | [] => true
  | (i, _) :: r => Nat.blt (shN d i) 1000000 && small d r
theorem small_lk {d i : Nat} {o : Obj} : ∀ {L : List (Nat × Obj)}, small d L = true → lk i L = some o → shN d i < 1000000
  | [], _, h => by cases h
  | (k, o) :: r, hs, h => by
    simp only [small, Bool.and_eq_true] at hs
    rw [lk_cons] at h
    by_cases e : k = i
    · subst e
      simpa [Nat.blt_eq] using hs.1
    · rw [if_neg e] at h
      exact small_lk (L := r) hs.2 h
def clear (os : List (Nat × Obj)) (d : Nat) : List (Nat × Obj) → Bool
  | [] => true
  | (i, _) :: r => (lk (shN d i) os).isNone && clear os d r
theorem clear_lk {os : List (Nat × Obj)} {d i : Nat} {o : Obj} : ∀ {L : List (Nat × Obj)}, clear os d L = true → lk i L = some o → lk (shN d i) os = none
  | [], _, h => by cases h
  | (k, o') :: r, hc, h => by
    simp only [clear, Bool.and_eq_true] at hc
    rw [lk_cons] at h
    by_cases e : k = i
    · subst e
      simpa using hc.1
    · rw [if_neg e] at h
      exact clear_lk hc.2 h
theorem TreeAt.base {w : World} {B B' : Nat} {ok : Nat → Prop} {t : Tr} {v : Value} {fp : List Nat} (h : TreeAt w B ok t v fp) (hB : B' ≤ B) : TreeAt w B' ok t v fp := by
  have hr : ∀ {e size n : Nat} {v : Value} {vs : List Value}, w.ownsRow B e size v n vs → w.ownsRow B' e size v n vs := by
    rintro e size n v vs ⟨h1, h2⟩
    refine ⟨h1, ?_⟩
    rcases h2 with h2 | ⟨g, cap, cur, e1, hb, r⟩
    · exact .inl h2
    · exact .inr ⟨g, cap, cur, e1, Nat.le_trans hB hb, r⟩
  induction h with
  | leaf e sz xs v vs ho hf => exact .leaf e sz xs v vs (hr ho) hf
  | rv sz xs v hr => exact .rv sz xs v hr
  | node e ts v vs fps ho hl h hnd ih => exact .node e ts v vs fps (hr ho) hl ih hnd
theorem boxSim' {w : World} {B B' : Nat} {ok ok1 : Nat → Prop} {ids ids1 : Nat → List Nat → Prop} {ψ ψ1 : Nat → List Nat} {φ φ1 : Nat → Value} {o : Obj} {v : Value} {fp : List Nat} (f : AV → AV) (g : Obj → Obj) (hg : ∀ T cs, g (.box T cs) = .box T (cs.map f)) (hr : ∀ t, g (.tree t) = .tree t) (hq : ∀ t, g (.mp t) = .mp t)
    (h : ObjAt w B ok ids ψ φ o v fp) (hB : B' ≤ B) (hk : ∀ k, ok k → ok1 k) (hf : ∀ a u, Rep w ok ids ψ φ a u → Rep w ok1 ids1 ψ1 φ1 (f a) u) : ObjAt w B' ok1 ids1 ψ1 φ1 (g o) v fp := by
  cases o with
  | tree t =>
    rw [hr]
    exact (TreeAt.move h (fun _ _ => rfl) (fun _ _ => rfl) hk).base hB
  | mp ks =>
    rw [hq]
    exact MpAt.base h hB
  | box T cs =>
    rw [hg]
    obtain ⟨b, cur, rfl, rfl, hB', hc, hs, h1, hr⟩ := h
    refine ⟨b, cur, rfl, rfl, Nat.le_trans hB hB', hc, by simpa using hs, h1, fun j a u ha hu => ?_⟩
    rw [List.getElem?_map, Option.map_eq_some_iff] at ha
    obtain ⟨a0, ha0, rfl⟩ := ha
    exact hf a0 u (hr j a0 u ha0 hu)
/-- The call of a function with a contract. -/
theorem op_call {f : FuncId} {fn : Func} {args : List Operand} {tys : Array TypeId} {ins : List AV} {ra : AV} {L : List (Nat × Obj)} {d : Nat} (hS : Spec P f ins ra L) (ho : o.op = .call { callee := .value (.func f), args := args.toArray, argTypes := tys }) (hf : P.funcs[f]? = some fn) (hb : fn.body.isNone = false) (hnm : (fn.name == "runtime.NumGoroutine") = false)
    (hd : o.dst = some d) (hn : d < C.n) (he : evL s args ins) (hcl : clear s.objs d L = true) (hsm : small d L = true) : OpD P C [] o s ⟨(d, AV.sh d ra) :: s.env, shO d L ++ s.objs⟩ := by
  intro ψ φ a w hF
  unfold Oper.wp
  rw [run_call ho hf hb hnm a w, Oper.upon_enter]
  refine Calls.mono (hS w 0 (okS C ψ s.objs w) (fun k hk => hk.2.1) _ (by simp [evL_len he]) (fun j b u hb hu => evL_get hF he j b u hb (by simpa using hu))) (fun e w' hq => ?_)
  obtain ⟨v, ψc, φc, rfl, hp, hrep⟩ := hq
  have hbel : Below w.heap.size w w' := hp.below.below (fun _ _ h => h)
  obtain ⟨q1, q2, q3, q4⟩ := hF.hp.ext hbel
  -- the joined handles
  let ψ' : Nat → List Nat := fun j => match lk j (shO d L) with | some _ => ψc ((j - d) / 1000) | none => ψ j
  let φ' : Nat → Value := fun j => match lk j (shO d L) with | some _ => φc ((j - d) / 1000) | none => φ j
  have hinv : ∀ i, (shN d i - d) / 1000 = i := fun i => by unfold shN; omega
  have hψc : ∀ i oi, lk i L = some oi → ψ' (shN d i) = ψc i ∧ φ' (shN d i) = φc i := by
    intro i oi hi
    have h1 : lk (shN d i) (shO d L) = some (shB d oi) := by rw [lk_shO, hi]; rfl
    exact ⟨by simp only [ψ', h1, hinv], by simp only [φ', h1, hinv]⟩
  have hold : ∀ j oj, lk j s.objs = some oj → lk j (shO d L) = none := by
    intro j oj hj
    cases e : lk j (shO d L) with
    | none => rfl
    | some x =>
      obtain ⟨i, rfl⟩ := lk_shO_inv d j L x e
      rw [lk_shO, Option.map_eq_some_iff] at e
      obtain ⟨y, hy, _⟩ := e
      rw [clear_lk hcl hy] at hj
      cases hj
  have hψo : ∀ j oj, lk j s.objs = some oj → ψ' j = ψ j ∧ φ' j = φ j := fun j oj hj => ⟨by simp only [ψ', hold j oj hj], by simp only [φ', hold j oj hj]⟩
  have hlko : ∀ j oj, lk j s.objs = some oj → lk j (shO d L ++ s.objs) = some oj := fun j oj hj => by rw [lk_append, hold j oj hj]; exact hj
  have hlkc : ∀ i oi, lk i L = some oi → lk (shN d i) (shO d L ++ s.objs) = some (shB d oi) := fun i oi hi => by rw [lk_append, lk_shO, hi]; rfl
  have hlki : ∀ j oj, lk j (shO d L ++ s.objs) = some oj → (∃ i oi, j = shN d i ∧ lk i L = some oi ∧ oj = shB d oi) ∨ lk j s.objs = some oj := by
    intro j oj hj
    rw [lk_append] at hj
    cases e : lk j (shO d L) with
    | none => rw [e] at hj; exact .inr hj
    | some x =>
      rw [e] at hj
      obtain ⟨i, rfl⟩ := lk_shO_inv d j L x e
      rw [lk_shO, Option.map_eq_some_iff] at e
      obtain ⟨y, hy, rfl⟩ := e
      exact .inl ⟨i, y, rfl, hy, (Option.some.inj hj).symm⟩
  have hltc : ∀ i oi k, lk i L = some oi → k ∈ ψc i → w.heap.size ≤ k ∧ k < w'.heap.size := fun i oi k hi hk => ⟨(hp.lt hi hk).1.elim id False.elim, (hp.lt hi hk).2⟩
  have hmo : Mv w w' (idsS s.objs) (idsS (shO d L ++ s.objs)) ψ ψ' φ φ' := Mv.of_same (fun j p ⟨oj, hj, h⟩ => ⟨oj, hlko j oj hj, h⟩) (fun j p ⟨oj, hj, _⟩ => ⟨(hψo j oj hj).2, (hψo j oj hj).1⟩) (fun j p ⟨oj, hj, _⟩ k hk => hbel.block k (hF.hp.lt hj hk).2)
  have hok : ∀ k, okS C ψ s.objs w k → okS C ψ' (shO d L ++ s.objs) w' k := by
    rintro k ⟨k1, k2, k3⟩
    refine ⟨k1, Nat.lt_of_lt_of_le k2 hbel.size, fun j oj hj hk => ?_⟩
    rcases hlki j oj hj with ⟨i, oi, rfl, hi, rfl⟩ | h1
    · rw [(hψc i oi hi).1] at hk
      have := (hltc i oi k hi hk).1
      omega
    · rw [(hψo j oj h1).1] at hk
      exact k3 j oj h1 hk
  have hokc : ∀ k, okS (mkC w 0 (okS C ψ s.objs w) (fun k hk => hk.2.1)) ψc L w' k → okS C ψ' (shO d L ++ s.objs) w' k := by
    rintro k ⟨k1, k2, k3⟩
    have hold2 : (C.ok0 k ∨ C.own k) ∧ ∀ j oj, lk j s.objs = some oj → k ∉ ψ j := by
      rcases k1 with h1 | h1 | h1
      · exact ⟨h1.1, h1.2.2⟩
      · exact ⟨.inr (.inl (Nat.le_trans hF.hp.below.size h1)), fun j oj hj hk => by
          have := (hF.hp.lt hj hk).2
          have h1' : w.heap.size ≤ k := h1
          omega⟩
      · exact h1.elim
    refine ⟨hold2.1, k2, fun j oj hj hk => ?_⟩
    rcases hlki j oj hj with ⟨i, oi, rfl, hi, rfl⟩ | h1
    · rw [(hψc i oi hi).1] at hk
      exact k3 i oi hi hk
    · rw [(hψo j oj h1).1] at hk
      exact hold2.2 j oj h1 hk
  have hrepc : ∀ b u, Rep w' (okS (mkC w 0 (okS C ψ s.objs w) (fun k hk => hk.2.1)) ψc L w') (idsS L) ψc φc b u → Rep w' (okS C ψ' (shO d L ++ s.objs) w') (idsS (shO d L ++ s.objs)) ψ' φ' (AV.sh d b) u := by
    intro b u h
    have hids : ∀ i p, idsS L i p → idsS (shO d L ++ s.objs) (shN d i) p ∧ ψ' (shN d i) = ψc i ∧ φ' (shN d i) = φc i := fun i p ⟨oi, hi, hp⟩ => ⟨⟨shB d oi, hlkc i oi hi, by cases oi <;> exact hp⟩, hψc i oi hi⟩
    induction h with
    | ro h => exact .ro ((h.move (fun _ _ => rfl) hokc).sh d)
    | own i p v h ha =>
      obtain ⟨h1, h2, h3⟩ := hids i p h
      exact .own _ p v h1 (by rw [h2, h3]; exact ha)
    | box i off b h hb =>
      obtain ⟨h1, h2, h3⟩ := hids i [] h
      exact .box _ off b h1 (by rw [h3]; exact hb)
    | oref i p sz j c g n cap h ha =>
      obtain ⟨h1, h2, h3⟩ := hids i p h
      exact .oref _ p sz j c g n cap h1 (by rw [h2, h3]; exact ha)
    | part i p sz l n m cap A h ha hl hn hm =>
      obtain ⟨h1, h2, h3⟩ := hids i p h
      exact .part _ p sz l n m cap A h1 (by rw [h2, h3]; exact ha) hl hn hm
    | agg cs vs hl _ ih =>
      simp only [AV.sh, shL_map]
      refine .agg _ vs (by simpa using hl) (fun j a u ha hu => ?_)
      rw [List.getElem?_map, Option.map_eq_some_iff] at ha
      obtain ⟨b, hb, rfl⟩ := ha
      exact ih j b u hb hu
    | tup cs vs hl _ ih =>
      simp only [AV.sh, shL_map]
      refine .tup _ vs (by simpa using hl) (fun j a u ha hu => ?_)
      rw [List.getElem?_map, Option.map_eq_some_iff] at ha
      obtain ⟨b, hb, rfl⟩ := ha
      exact ih j b u hb hu
    | clo g nf cs vf vc hl hn _ ih =>
      simp only [AV.sh, shL_map]
      refine .clo g nf _ vf vc (by simpa using hl) hn (fun j a u ha hu => ?_)
      rw [List.getElem?_map, Option.map_eq_some_iff] at ha
      obtain ⟨b, hb, rfl⟩ := ha
      exact ih j b u hb hu
  have hF' : SimF C ψ' φ' ⟨s.env, shO d L ++ s.objs⟩ a w' := by
    refine ⟨hF.defers, hF.size, ⟨q1.below, fun j oj hj => ?_, fun j j' oj oj' k hj hj' hk hk' => ?_, fun j oj k hj hk => ?_, fun j u oj hu hj hf => ?_⟩, fun t av ht => ⟨(hF.env t av ht).1, (hF.env t av ht).2.move q3 hok hmo⟩⟩
    · rcases hlki j oj hj with ⟨i, oi, rfl, hi, rfl⟩ | h1
      · rw [(hψc i oi hi).1, (hψc i oi hi).2]
        have hx := hp.objs i oi hi
        have hBB : 0 ≤ 0 := Nat.le_refl _
        exact boxSim' (AV.sh d) (shB d) (fun T cs => by simp [shB, shL_map]) (fun _ => rfl) (fun _ => rfl) hx hBB hokc hrepc
      · rw [(hψo j oj h1).1, (hψo j oj h1).2]
        exact (hF.hp.objs j oj h1).move (fun k hk => hbel.block k (hF.hp.lt h1 hk).2) q3 hok hmo
    · rcases hlki j oj hj with ⟨i, oi, rfl, hi, rfl⟩ | h1
      · rw [(hψc i oi hi).1] at hk
        rcases hlki j' oj' hj' with ⟨i', oi', rfl, hi', rfl⟩ | h2
        · rw [(hψc i' oi' hi').1] at hk'
          rw [hp.disj i i' oi oi' k hi hi' hk hk']
        · rw [(hψo j' oj' h2).1] at hk'
          have e1 := (hltc i oi k hi hk).1
          have e2 := (hF.hp.lt h2 hk').2
          omega
      · rw [(hψo j oj h1).1] at hk
        rcases hlki j' oj' hj' with ⟨i', oi', rfl, hi', rfl⟩ | h2
        · rw [(hψc i' oi' hi').1] at hk'
          have e1 := (hltc i' oi' k hi' hk').1
          have e2 := (hF.hp.lt h1 hk).2
          omega
        · rw [(hψo j' oj' h2).1] at hk'
          exact hF.hp.disj j j' oj oj' k h1 h2 hk hk'
    · rcases hlki j oj hj with ⟨i, oi, rfl, hi, rfl⟩ | h1
      · rw [(hψc i oi hi).1] at hk
        exact .inl (Nat.le_trans hF.hp.below.size (hltc i oi k hi hk).1)
      · rw [(hψo j oj h1).1] at hk
        exact hF.hp.own j oj k h1 hk
    · rcases hlki j _ hj with ⟨i, oi, rfl, hi, hoi⟩ | h1
      · have h5 := small_lk hsm hi
        have h6 := C.hfix _ u hu
        omega
      · rw [(hψo j _ h1).2]
        exact hF.hp.fix j u oj hu h1 hf
  rw [hd]
  refine ⟨ψ', φ', hF'.put d (AV.sh d ra) v hn (hrepc ra v hrep), .of_below hbel, fun j oj hj k hk => ?_⟩
  rcases hlki j oj hj with ⟨i, oi, rfl, hi, rfl⟩ | h1
  · rw [(hψc i oi hi).1] at hk
    exact .inl (hltc i oi k hi hk).1
  · rw [(hψo j oj h1).1] at hk
    exact .inr (.inl ⟨oj, h1, hk⟩)
end
end Go.Proofs.YtmiijpobhajfmaaGreat.J
namespace Go.Proofs.YtmiijpobhajfmaaGreat.J
open Go Go.RowKit
set_option linter.unusedVariables false
set_option linter.unusedSimpArgs false

/-! ### 34. Building -/
def fillA (pl : Nat → Option (Nat × Nat)) : List AV → List (Nat × List AV) → Option (List AV)
  | cs, [] => some cs
  | cs, (i, ns) :: rest => match pl i with
    | none => none
    | some (off, size) => bif Nat.beq ns.length size && Nat.ble (off + ns.length) cs.length then fillA pl (cs.take off ++ ns ++ cs.drop (off + ns.length)) rest else none
inductive BParts (s : AS) : List (Nat × Operand) → List (Nat × List AV) → Prop
  | nil : BParts s [] []
  | one {i : Nat} {x : Operand} {av : AV} {r : List (Nat × Operand)} {xs : List (Nat × List AV)} (h : ev s x = some av) (h1 : av.one = true) (t : BParts s r xs) : BParts s ((i, x) :: r) ((i, [av]) :: xs)
  | agg {i : Nat} {x : Operand} {cs : List AV} {r : List (Nat × Operand)} {xs : List (Nat × List AV)} (h : ev s x = some (.agg cs)) (h1 : AV.oneL cs = true) (t : BParts s r xs) : BParts s ((i, x) :: r) ((i, cs) :: xs)
section
variable {P : Program} {C : Ctx} {s : AS}
theorem one_cells {ψ : Nat → List Nat} {φ : Nat → Value} {a : Act} {w : World} (hF : SimF C ψ φ s a w) {y : Operand} {av : AV} (hy : ev s y = some av) (h1 : av.one = true) : ∃ us : List Value, (a.eval y).cells.toList = us ∧ us.length = [av].length ∧ ∀ (j : Nat) b u, [av][j]? = some b → us[j]? = some u → Rep w (okS C ψ s.objs w) (idsS s.objs) ψ φ b u := by
  have hr := hF.ev hy
  have hone := hF.one hr h1
  refine ⟨[a.eval y], by rw [cells_one hone], rfl, fun j b u hb hu => ?_⟩
  cases j with
  | zero =>
    obtain rfl : av = b := by simpa using hb
    obtain rfl : a.eval y = u := by simpa using hu
    exact hr
  | succ j => simp at hb
theorem fill_A {ψ : Nat → List Nat} {φ : Nat → Value} {a : Act} {w : World} (hF : SimF C ψ φ s a w) (pl : Nat → Option (Nat × Nat)) : ∀ {l : List (Nat × Operand)} {xs : List (Nat × List AV)}, BParts s l xs → ∀ (cs : List AV) (A : Array Value) (cs' : List AV), A.size = cs.length →
    (∀ (j : Nat) av u, cs[j]? = some av → A[j]? = some u → Rep w (okS C ψ s.objs w) (idsS s.objs) ψ φ av u) → fillA pl cs xs = some cs' →
    ∃ A', Instr.fill pl A (l.map fun p => (p.1, a.eval p.2)) = some A' ∧ A'.size = cs'.length ∧ ∀ (j : Nat) av u, cs'[j]? = some av → A'[j]? = some u → Rep w (okS C ψ s.objs w) (idsS s.objs) ψ φ av u := by
  intro l xs hp
  have step : ∀ {i : Nat} {x : Operand} {ns : List AV} {r : List (Nat × Operand)} {xs : List (Nat × List AV)} (us : List Value), (a.eval x).cells.toList = us → us.length = ns.length → (∀ (j : Nat) b u, ns[j]? = some b → us[j]? = some u → Rep w (okS C ψ s.objs w) (idsS s.objs) ψ φ b u) →
      (∀ (cs : List AV) (A : Array Value) (cs' : List AV), A.size = cs.length → (∀ (j : Nat) av u, cs[j]? = some av → A[j]? = some u → Rep w (okS C ψ s.objs w) (idsS s.objs) ψ φ av u) → fillA pl cs xs = some cs' → ∃ A', Instr.fill pl A (r.map fun p => (p.1, a.eval p.2)) = some A' ∧ A'.size = cs'.length ∧ ∀ (j : Nat) av u, cs'[j]? = some av → A'[j]? = some u → Rep w (okS C ψ s.objs w) (idsS s.objs) ψ φ av u) →
      ∀ (cs : List AV) (A : Array Value) (cs' : List AV), A.size = cs.length → (∀ (j : Nat) av u, cs[j]? = some av → A[j]? = some u → Rep w (okS C ψ s.objs w) (idsS s.objs) ψ φ av u) → fillA pl cs ((i, ns) :: xs) = some cs' → ∃ A', Instr.fill pl A (((i, x) :: r).map fun p => (p.1, a.eval p.2)) = some A' ∧ A'.size = cs'.length ∧ ∀ (j : Nat) av u, cs'[j]? = some av → A'[j]? = some u → Rep w (okS C ψ s.objs w) (idsS s.objs) ψ φ av u := by
    intro i x ns r xs us hus hul hur ih cs A cs' hA hR hf
    simp only [fillA] at hf
    cases hpl : pl i with
    | none => rw [hpl] at hf; cases hf
    | some q =>
      obtain ⟨off, size⟩ := q
      simp only [hpl] at hf
      cases hc : (Nat.beq ns.length size && Nat.ble (off + ns.length) cs.length) with
      | false => rw [hc] at hf; cases hf
      | true =>
        rw [hc, cond_true] at hf
        simp only [Bool.and_eq_true] at hc
        have e1 : ns.length = size := Nat.eq_of_beq_eq_true hc.1
        have e2 : off + ns.length ≤ cs.length := Nat.le_of_ble_eq_true hc.2
        have hvs : (a.eval x).cells.size = ns.length := by rw [← hul, ← hus, Array.length_toList]
        obtain ⟨g1, g2⟩ := Go.Great.foldl_set off (a.eval x).cells.toList 0 A
        have hz : (a.eval x).cells.zipIdx.foldl (fun cs (x : Value × Nat) => cs.setIfInBounds (off + x.2) x.1) A = ((a.eval x).cells.toList.zipIdx 0).foldl (fun cs (x : Value × Nat) => cs.setIfInBounds (off + x.2) x.1) A := by
          rw [← Array.foldl_toList, Array.toList_zipIdx]
        have hgoal := ih (cs.take off ++ ns ++ cs.drop (off + ns.length)) (((a.eval x).cells.toList.zipIdx 0).foldl (fun cs (x : Value × Nat) => cs.setIfInBounds (off + x.2) x.1) A) cs' (by
          rw [g1, hA]; simp only [List.length_append, List.length_take, List.length_drop]; omega) (fun j av u hj hu => by
          rw [splice_get _ _ _ _ e2] at hj
          rw [g2 j] at hu
          have hlen : (a.eval x).cells.toList.length = ns.length := by rw [Array.length_toList]; exact hvs
          rw [hlen] at hu
          by_cases c1 : j < off
          · rw [if_pos c1] at hj
            rw [if_neg (by omega)] at hu
            exact hR j av u hj hu
          · rw [if_neg c1] at hj
            by_cases c2 : j < off + ns.length
            · rw [if_pos c2] at hj
              rw [if_pos (by omega), hus] at hu
              exact hur _ av u hj (by simpa using hu)
            · rw [if_neg c2] at hj
              rw [if_neg (by omega)] at hu
              exact hR j av u hj hu) hf
        obtain ⟨A', h1, h2, h3⟩ := hgoal
        refine ⟨A', ?_, h2, h3⟩
        simp only [List.map_cons, Instr.fill, hpl]
        rw [if_neg (by
          simp only [Bool.or_eq_true, decide_eq_true_eq, not_or]
          exact ⟨by rw [hvs, e1]; simp, by rw [hvs, hA]; omega⟩)]
        rw [← h1, ← hz]
  induction hp with
  | nil =>
    intro cs A cs' hA hR hf
    obtain rfl : cs = cs' := by simpa [fillA] using hf
    exact ⟨A, rfl, hA, hR⟩
  | one h h1 t ih =>
    obtain ⟨us, e1, e2, e3⟩ := one_cells hF h h1
    exact step us e1 e2 e3 ih
  | agg h h1 t ih =>
    obtain ⟨us, e1, e2, _, e3⟩ := agg_cells hF h h1
    exact step us e1 e2 e3 ih

theorem lk_keysN (j : Nat) : ∀ {L : List (Nat × Obj)}, lk j L = none → ∀ p ∈ L, p.1 ≠ j
  | (k, o) :: r, h, p, hp => by
    rw [lk_cons] at h
    by_cases e : k = j
    · rw [if_pos e] at h; cases h
    · rw [if_neg e] at h
      rcases List.mem_cons.1 hp with rfl | hp
      · exact e
      · exact lk_keysN j h p hp
def dist : List (Nat × Obj) → Bool
  | [] => true
  | (i, _) :: r => (lk i r).isNone && dist r
theorem subO_of {L M : List (Nat × Obj)} (h : ∀ p ∈ L, lk p.1 M = some p.2) : subO L M := by
  induction L with
  | nil => trivial
  | cons p r ih => exact ⟨h p List.mem_cons_self, ih (fun q hq => h q (List.mem_cons_of_mem _ hq))⟩
theorem dist_lk : ∀ {L : List (Nat × Obj)}, dist L = true → ∀ p ∈ L, lk p.1 L = some p.2
  | (k, o) :: r, h, p, hp => by
    simp only [dist, Bool.and_eq_true] at h
    rcases List.mem_cons.1 hp with rfl | hp
    · rw [lk_cons, if_pos rfl]
    · have h1 := dist_lk h.2 p hp
      rw [lk_cons, if_neg (fun e => by
        have h0 := h.1
        rw [e, h1] at h0
        cases h0)]
      exact h1
theorem subO_tail {i : Nat} {o : Obj} {L : List (Nat × Obj)} (hi : lk i L = none) (hd : dist L = true) : subO L ((i, o) :: L) := subO_of (fun p hp => by
  rw [lk_cons, if_neg (Ne.symm (lk_keysN i hi p hp))]
  exact dist_lk hd p hp)
def bdK (P : Program) (T : TypeId) : Option (List Value × List (Nat × Nat)) :=
  match P.info? T, P.underlying T with
  | some it, some (.struct fields) => match it.zero, fields.toList.mapM (fun f => (P.info? f.type).map fun i => (f.offset, i.size)) with
    | some z, some places => some (z.cells.toList, places)
    | _, _ => none
  | _, _ => none
theorem pure_build {o : Oper} {T : Nat} {l : List (Nat × Operand)} {xs : List (Nat × List AV)} {zs : List Value} {pl : List (Nat × Nat)} {cs : List AV} (ho : o.op = .build T l.toArray) (hT : bdK P T = some (zs, pl)) (hp : BParts s l xs) (hf : fillA (fun i => pl[i]?) (zs.map .val) xs = some cs) : PureOp P C o s (.agg cs) := fun ψ φ a w hF => by
  unfold bdK at hT
  cases hi : P.info? T with
  | none => rw [hi] at hT; cases hT
  | some it =>
    cases hu : P.underlying T with
    | none => rw [hi, hu] at hT; cases hT
    | some u =>
      cases u with
      | struct fields =>
        simp only [hi, hu] at hT
        cases hz : it.zero with
        | none => rw [hz] at hT; cases hT
        | some z =>
          cases hm : fields.toList.mapM (fun f => (P.info? f.type).map fun i => (f.offset, i.size)) with
          | none => rw [hz, hm] at hT; cases hT
          | some places =>
            rw [hz, hm] at hT
            simp only [Option.some.injEq, Prod.mk.injEq] at hT
            obtain ⟨rfl, rfl⟩ := hT
            obtain ⟨A', h1, h2, h3⟩ := fill_A hF (fun i => places[i]?) hp (z.cells.toList.map .val) z.cells cs (by simp) (fun j av u hj hu => by
              rw [List.getElem?_map, Array.getElem?_toList, hu] at hj
              obtain rfl : AV.val u = av := by simpa using hj
              exact .ro (.val u)) hf
            refine ⟨.agg A', fun w1 _ => ?_, .agg cs A' h2 h3⟩
            have hb : P.built T (l.map fun p => (p.1, a.eval p.2)) = some A' := by
              unfold Program.built
              simp only [hi, hu, hz, hm]
              rw [← h1]
              congr 1
              funext i
              simp
            have hr := run_build (P := P) w1 T (l.map fun p => (p.1, a.eval p.2)).toArray A' (by simpa using hb)
            have e : (l.toArray.map fun (p : Nat × Operand) => (p.1, a.eval p.2)) = (l.map fun p => (p.1, a.eval p.2)).toArray := by simp
            simp only [execOp, ho]
            rw [show (Array.map (fun x : Nat × Operand => match x with | (i, x) => (i, a.eval x)) l.toArray) = (l.map fun p => (p.1, a.eval p.2)).toArray from e]
            simp [hr]
      | _ => rw [hi, hu] at hT; cases hT

/-! ### 35. A nil slice in a variable is an owned row -/
theorem Le_adoptB (C : Ctx) (s : AS) (b j i : Nat) (T : TypeId) (cs : List AV) (e sz : Nat) (hb : lk b s.objs = some (.box T cs)) (hj : cs[j]? = some (.val (.slice none 0 0))) (hi : lk i s.objs = none) (h2m : Nat.blt i 2000000 = true := by exact rfl) : Le C s ⟨s.env, (b, .box T (cs.set j (.own i []))) :: rm b ((i, .tree (.leaf e sz [])) :: s.objs)⟩ := by
  rintro a w ⟨ψ, φ, hF⟩
  have h1 := hF.new (Below.refl _ w) i (.tree (.leaf e sz [])) (.slice none 0 0) [] hi (nofix (small_tree h2m)) (fun k hk => by cases hk) (fun ok ids ψ' φ' _ _ => TreeAt.leaf e sz [] (.slice none 0 0) [] (World.ownsRow_nil w _ e sz) (Flat.nil _ _ _))
  have hne : i ≠ b := fun e => by rw [← e, hi] at hb; cases hb
  have hb' : lk b ((i, Obj.tree (.leaf e sz [])) :: s.objs) = some (.box T cs) := by rw [lk_cons, if_neg hne]; exact hb
  refine ⟨_, _, h1.upd b (.box T cs) (.box T (cs.set j (.own i []))) hb' ⟨rfl, rfl, rfl, Nat.le_refl _, fun _ _ _ => rfl⟩ (fun p h => h) rfl (fun p v _ h => h) (fun ok ids hok _ hmv => ?_)⟩
  have hx := h1.hp.objs b _ hb'
  obtain ⟨b', cur, e1, e2, e3, e4, e5, e6, e7⟩ := hx
  refine ⟨b', cur, e1, e2, e3, e4, by simpa using e5, e6, fun q av u hq hu => ?_⟩
  rw [List.getElem?_set] at hq
  by_cases c : j = q
  · subst c
    rw [if_pos rfl] at hq
    split at hq
    · obtain rfl := Option.some.inj hq
      have h2 := e7 j _ u hj hu
      have h3 : u = .slice none 0 0 := by
        cases h2 with
        | ro h => cases h; rfl
      subst h3
      refine .own i [] _ (hmv.id_ i [] (idsS_root _ _ _)) ?_
      show At _ _ _ _ _
      rw [ups_self, ups_self]
      rfl
    · cases hq
  · rw [if_neg c] at hq
    exact (e7 q av u hq hu).move (fun _ _ => rfl) hok hmv

/-! ### 36. A result that stands in a variable -/
theorem Fin_cell {fn : Func} {t i T T0 m : Nat} {cs : List AV} {L : List (Nat × Obj)} (hr : fn.results = #[.cell t T]) (hT : ldK P T = some (some m)) (hm : cs.length = m) (h : Le C s ⟨[(t, .box i 0)], (i, .box T0 cs) :: L⟩)
    (hw : AV.withinL (keys L) cs = true) (hL : withinO (keys L) L = true) (hi : lk i L = none) (hd : dist L = true) : Fin P C fn (.agg cs) L s := fun a w hs => by
  obtain ⟨ψ, φ, hF⟩ := h a w hs
  have hx : ev ⟨[(t, AV.box i 0)], (i, .box T0 cs) :: L⟩ (.tmp t) = some (.box i 0) := by simp [ev, lk]
  have hlk : lk i ((i, Obj.box T0 cs) :: L) = some (.box T0 cs) := by rw [lk_cons, if_pos rfl]
  obtain ⟨g, e1, e2, e3⟩ := (hF.ev hx).box_inv
  have hobj := hF.hp.objs i _ hlk
  rw [e1] at hobj
  obtain ⟨hgf, us, hus⟩ := box_cells hobj
  have hl : ((List.range m).map us).length = m := by simp
  have hc1 : ∀ (j : Nat) v, ((List.range m).map us)[j]? = some v → w.cell? ((⟨g, 0, none⟩ : Addr).add j) = some v := by
    intro j v hj
    have hjm : j < m := by have := (List.getElem?_eq_some_iff.1 hj).1; simpa using this
    obtain ⟨av, hav⟩ : ∃ av, cs[j]? = some av := ⟨_, List.getElem?_eq_getElem (by omega)⟩
    have e : us j = v := by simpa [hjm] using hj
    rw [← e, Addr.add_lit, Nat.zero_add]
    exact (hus j av hav).1
  have hrun := run_loadVar_agg (P := P) hT hl hc1
  have hrep : Rep w (okS C ψ ((i, .box T0 cs) :: L) w) (idsS ((i, .box T0 cs) :: L)) ψ φ (.agg cs) (.agg ((List.range m).map us).toArray) := .agg cs _ (by simp [hm]) (fun j av u ha hu => by
    have hjm : j < m := by have := (List.getElem?_eq_some_iff.1 ha).1; omega
    have e : us j = u := by simpa [hjm] using hu
    rw [← e]
    exact (hus j av ha).2.2)
  have hput := hF.put t (.agg cs) _ (hF.env t _ hx).1 hrep
  obtain ⟨ψ', φ', h2⟩ := Le_sub C ⟨[(t, AV.agg cs), (t, .box i 0)], (i, .box T0 cs) :: L⟩ ⟨[(t, .agg cs)], L⟩ ⟨by rw [lk_cons, if_pos rfl], trivial⟩ (subO_tail hi hd) (by show (AV.within (keys L) (.agg cs) && true) = true; rw [Bool.and_true]; exact hw) hL _ _ ⟨ψ, φ, hput⟩
  refine ⟨_, ψ', φ', ?_, h2.hp, by
    have := (h2.env t (.agg cs) (by rw [lk_cons, if_pos rfl])).2
    rwa [put_getD _ _ _ _ (by rw [hF.size]; exact (hF.env t _ hx).1), if_pos rfl] at this⟩
  have e4 : a.tmps.getD t undef = .pointer (some ⟨g, 0, none⟩) := e2
  have e5 : a.tmps[t]?.getD undef = .pointer (some ⟨g, 0, none⟩) := by simpa using e4
  simp [results, hr, asAddr, e5, hrun]

/-! ### 37. An array that is read, as a slice; nil -/
theorem pure_slice_ref {o : Oper} {T E n : Nat} {x : Operand} {cs : List AV} (ho : o.op = .slice T x none none none) (hT : P.underlying T = some (.array n E)) (hE : (P.info? E).map (·.size) = some 1) (hx : ev s x = some (.ref cs)) (hn : n ≤ cs.length) (hmx : n ≤ 1000) :
    PureOp P C o s (.sl 1 ((cs.take n).map fun a => [a])) := fun ψ φ a w hF => by
  have hr := (hF.ev hx).ref_inv
  generalize hv : a.eval x = v at hr
  cases hr with
  | ref _ ad us hok hcell h =>
    have hlen : ((cs.take n).map fun a => [a]).length = n := by simp [Nat.min_eq_left hn]
    refine ⟨.slice (some ad) n n, fun w1 _ => ?_, .ro ?_⟩
    · by_cases h0 : n = 0
      · simp [execOp, ho, hv, Instr.sliceAt, Instr.sliceBounds, Instr.sureAddr, run_underlying hT, run_sizeOf' hE, h0, Addr.add_zero']
      · simp [execOp, ho, hv, Instr.sliceAt, Instr.sliceBounds, Instr.sureAddr, run_underlying hT, run_sizeOf' hE, h0, Addr.add_zero']
    · have hg : ∀ (j : Nat) y (c : Nat) b, ((cs.take n).map fun a => [a])[j]? = some y → y[c]? = some b → c = 0 ∧ cs[j]? = some b := by
        intro j y c b hy hb
        rw [List.getElem?_map, Option.map_eq_some_iff] at hy
        obtain ⟨z, hz, rfl⟩ := hy
        cases c with
        | zero =>
          obtain rfl : z = b := by simpa using hb
          rw [List.getElem?_take] at hz
          split at hz
          · exact ⟨rfl, hz⟩
          · cases hz
        | succ c => simp at hb
      have hs := RO.sl (w := w) (ok := okS C ψ s.objs w) 1 ((cs.take n).map fun a => [a]) ad n (fun j c => us j) (by rw [hlen]; exact Nat.le_refl _) (by unfold maxLen; omega) hok (fun y hy => by
        obtain ⟨z, _, rfl⟩ := List.mem_map.1 hy
        rfl) (fun j y c b hy hb => by
        obtain ⟨rfl, h2⟩ := hg j y c b hy hb
        rw [Nat.mul_one, Nat.add_zero]
        exact hcell j b h2) (fun j y c b hy hb => by
        obtain ⟨rfl, h2⟩ := hg j y c b hy hb
        exact h j b h2)
      rw [hlen] at hs
      exact hs
theorem Le_nilS (C : Ctx) (s : AS) (t sz : Nat) (ht : lk t s.env = some (.val (.slice none 0 0))) : Le C s ⟨(t, .sl sz []) :: s.env, s.objs⟩ := by
  rintro a w ⟨ψ, φ, hF⟩
  refine ⟨ψ, φ, hF.defers, hF.size, hF.hp, fun t' av h => ?_⟩
  rw [lk_cons] at h
  by_cases e : t = t'
  · subst e
    rw [if_pos rfl] at h
    obtain rfl := Option.some.inj h
    have h2 : a.tmps.getD t undef = .slice none 0 0 := hF.ev_val (x := .tmp t) ht
    exact ⟨(hF.env t _ ht).1, by rw [h2]; exact .ro (.slNil sz)⟩
  · rw [if_neg e] at h
    exact hF.env t' av h
theorem equalIn_sl {xt e : TypeId} (hu : P.underlying xt = some (.slice e)) (A : Option Addr) (n c : Nat) (w : World) (d : Nat) : (Op.equalIn (d + 1) xt (.slice A n c) (.slice none 0 0)).run P w = .ok A.isNone w := by
  cases A <;> simp [Op.equalIn, run_underlying hu]
theorem jl_isnil {o : Oper} {ops : Array Oper} {k : Kt} {E : List (Nat × AV)} {O : List (Nat × Obj)} {rest : List Oper} {d sz : Nat} {x : Operand} {xs : List (List AV)} {xt yt e : TypeId} (hg : gOK ops E o = some true) (ho : o.op = .binOp .eql xt x (.const (.slice none 0 0)) yt) (hu : P.underlying xt = some (.slice e))
    (hd : o.dst = some d) (hn : d < C.n) (hx : ev ⟨E, O⟩ x = some (.sl sz xs)) (h1 : xs = [] → JL P C ops k rest ⟨(d, .val (.bool true)) :: E, O⟩) (h2 : JL P C ops k rest ⟨(d, .val (.bool false)) :: E, O⟩) : JL P C ops k (o :: rest) ⟨E, O⟩ := fun a w ⟨ψ, φ, hF⟩ => by
  have hr := (hF.ev hx).sl_inv
  unfold wpList
  rw [if_pos (wanted_of hF hg)]
  have key : ∀ A n c, a.eval x = .slice A n c → (execOp a.eval o).run P w = .ok (.value (.bool A.isNone)) w := fun A n c hv => by
    have he : (Op.equal xt (.slice A n c) (.slice none 0 0)).run P w = .ok A.isNone w := equalIn_sl hu A n c w 9999
    have hgd : (eqGuard .eql xt x (.const (.slice none 0 0)) (.slice A n c) (.slice none 0 0)).run P w = .ok () w := rfl
    have hc : a.eval (.const (.slice none 0 0)) = .slice none 0 0 := rfl
    simp [execOp, ho, hv, hc, hgd, binOp, he]
  refine .inl ?_
  unfold Oper.wp
  generalize hv : a.eval x = v at hr
  cases hr with
  | slNil =>
    rw [key none 0 0 hv, Oper.upon_value, hd]
    exact h1 rfl _ _ ⟨ψ, φ, hF.put d (.val (.bool true)) _ hn (.ro (.val _))⟩
  | sl _ _ ad cap us hn' hc hok hsz hcell h =>
    rw [key (some ad) _ _ hv, Oper.upon_value, hd]
    exact h2 _ _ ⟨ψ, φ, hF.put d (.val (.bool false)) _ hn (.ro (.val _))⟩
end
end Go.Proofs.YtmiijpobhajfmaaGreat.J
