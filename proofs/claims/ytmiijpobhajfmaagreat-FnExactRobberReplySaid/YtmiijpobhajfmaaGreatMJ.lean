/- Parts of a small logic over the program, and walks in it. No statement of the seat is proved in this text. -/
import Derived.Shelf.SlSortCmp.Whole1
import Derived.Test.YtmiijpobhajfmaaGreatProg
import Derived.Test.YtmiijpobhajfmaaGreatMI
import Derived.Test.YtmiijpobhajfmaaGreatMH
namespace Go.Proofs.YtmiijpobhajfmaaGreat.J
open Go Go.Shelf Go.Proofs
def srtRen : Go.Shelf.Ren := ⟨fun | 6 => 131 | 15 => 142 | 14 => 143 | 28 => 156 | 29 => 157 | 20 => 158 | 21 => 159 | 22 => 160 | 23 => 161 | 24 => 162 | 25 => 163 | 26 => 164 | 27 => 165 | 46 => 171 | 47 => 167 | 48 => 168 | 49 => 172 | 50 => 173 | 57 => 175 | n => n, fun | 22 => 25 | 24 => 37 | 25 => 117 | 3 => 3 | 39 => 126 | 0 => 0 | 53 => 134 | 55 => 137 | 4 => 4 | 46 => 143 | 45 => 142 | 50 => 44 | 5 => 5 | 9 => 9 | 66 => 154 | 70 => 158 | 76 => 162 | 77 => 163 | n => n, fun n => n⟩
theorem srtLay : SlLaysF.n6 Tryz.prog srtRen where
  mixed := by kernel_rfl
  f6 := ⟨Tryz.f131.name, by kernel_rfl, Tryz.func131.trans (congrArg some (by kernel_rfl))⟩
  f14 := ⟨Tryz.f143.name, by kernel_rfl, Tryz.func143.trans (congrArg some (by kernel_rfl))⟩
  f15 := Tryz.func142.trans (congrArg some (by kernel_rfl))
  f20 := ⟨Tryz.f158.name, by kernel_rfl, Tryz.func158.trans (congrArg some (by kernel_rfl))⟩
  f21 := ⟨Tryz.f159.name, by kernel_rfl, Tryz.func159.trans (congrArg some (by kernel_rfl))⟩
  f22 := ⟨Tryz.f160.name, by kernel_rfl, Tryz.func160.trans (congrArg some (by kernel_rfl))⟩
  f23 := ⟨Tryz.f161.name, by kernel_rfl, Tryz.func161.trans (congrArg some (by kernel_rfl))⟩
  f24 := ⟨Tryz.f162.name, by kernel_rfl, Tryz.func162.trans (congrArg some (by kernel_rfl))⟩
  f25 := ⟨Tryz.f163.name, by kernel_rfl, Tryz.func163.trans (congrArg some (by kernel_rfl))⟩
  f26 := ⟨Tryz.f164.name, by kernel_rfl, Tryz.func164.trans (congrArg some (by kernel_rfl))⟩
  f27 := ⟨Tryz.f165.name, by kernel_rfl, Tryz.func165.trans (congrArg some (by kernel_rfl))⟩
  f28 := Tryz.func156.trans (congrArg some (by kernel_rfl))
  f29 := Tryz.func157.trans (congrArg some (by kernel_rfl))
  f46 := ⟨Tryz.f171.name, by kernel_rfl, Tryz.func171.trans (congrArg some (by kernel_rfl))⟩
  f47 := Tryz.func167.trans (congrArg some (by kernel_rfl))
  f48 := Tryz.func168.trans (congrArg some (by kernel_rfl))
  f49 := ⟨Tryz.f172.name, by kernel_rfl, Tryz.func172.trans (congrArg some (by kernel_rfl))⟩
  f50 := ⟨Tryz.f173.name, by kernel_rfl, Tryz.func173.trans (congrArg some (by kernel_rfl))⟩
  f57 := ⟨Tryz.f175.name, by kernel_rfl, Tryz.func175.trans (congrArg some (by kernel_rfl))⟩
  t0 := Tryz.underlying0
  a0 := Tryz.isAgg0
  z0 := Tryz.sizeOf0
  v0 := Tryz.zeroValue0
  t3 := Tryz.underlying3
  a3 := Tryz.isAgg3
  z3 := Tryz.sizeOf3
  v3 := Tryz.zeroValue3
  t4 := Tryz.underlying4
  a4 := Tryz.isAgg4
  z4 := Tryz.sizeOf4
  v4 := Tryz.zeroValue4
  t5 := Tryz.underlying5
  a5 := Tryz.isAgg5
  z5 := Tryz.sizeOf5
  v5 := Tryz.zeroValue5
  t9 := Tryz.underlying9
  a9 := Tryz.isAgg9
  z9 := Tryz.sizeOf9
  v9 := Tryz.zeroValue9
  t22 := Tryz.underlying25
  a22 := Tryz.isAgg25
  z22 := Tryz.sizeOf25
  v22 := Tryz.zeroValue25
  a24 := Tryz.isAgg37
  z24 := Tryz.sizeOf37
  t25 := Tryz.underlying117
  a25 := Tryz.isAgg117
  z25 := Tryz.sizeOf117
  v25 := Tryz.zeroValue117
  t39 := Tryz.underlying126
  a39 := Tryz.isAgg126
  z39 := Tryz.sizeOf126
  v39 := Tryz.zeroValue126
  t45 := Tryz.underlying142
  a45 := Tryz.isAgg142
  z45 := Tryz.sizeOf142
  v45 := Tryz.zeroValue142
  t46 := Tryz.underlying143
  a46 := Tryz.isAgg143
  z46 := Tryz.sizeOf143
  v46 := Tryz.zeroValue143
  t50 := Tryz.underlying44
  a50 := Tryz.isAgg44
  z50 := Tryz.sizeOf44
  v50 := Tryz.zeroValue44
  t53 := Tryz.underlying134
  a53 := Tryz.isAgg134
  z53 := Tryz.sizeOf134
  v53 := Tryz.zeroValue134
  t55 := Tryz.underlying137
  a55 := Tryz.isAgg137
  z55 := Tryz.sizeOf137
  v55 := Tryz.zeroValue137
  t66 := Tryz.underlying154
  a66 := Tryz.isAgg154
  z66 := Tryz.sizeOf154
  v66 := Tryz.zeroValue154
  t70 := Tryz.underlying158
  a70 := Tryz.isAgg158
  z70 := Tryz.sizeOf158
  v70 := Tryz.zeroValue158
  t76 := Tryz.underlying162
  a76 := Tryz.isAgg162
  z76 := Tryz.sizeOf162
  v76 := Tryz.zeroValue162
  t77 := Tryz.underlying163
  a77 := Tryz.isAgg163
  z77 := Tryz.sizeOf163
  v77 := Tryz.zeroValue163
end Go.Proofs.YtmiijpobhajfmaaGreat.J
namespace Go.Proofs.YtmiijpobhajfmaaGreat.J
open Go Go.RowKit
set_option linter.unusedVariables false
set_option linter.unusedSimpArgs false

theorem cmpL_refl : ∀ a : List Int, cmpL a a = 0
  | [] => rfl
  | a :: r => by simp [cmpL, cmpI, cmpL_refl r]
theorem cmpL_zero : ∀ {a b : List Int}, cmpL a b = 0 → a = b
  | [], [], _ => rfl
  | [], _ :: _, h => by simp [cmpL] at h
  | _ :: _, [], h => by simp [cmpL] at h
  | a :: r, b :: t, h => by
    simp only [cmpL] at h
    split at h
    · rename_i h1
      have h2 : a = b := by unfold cmpI at h1; split at h1; omega; split at h1; omega; omega
      rw [h2, cmpL_zero h]
    · rename_i h1; exact absurd h h1
theorem cmpI_neg (a b : Int) : cmpI a b = - cmpI b a := by
  unfold cmpI
  split <;> split <;> (try split) <;> (try split) <;> omega
theorem cmpL_neg : ∀ a b : List Int, cmpL a b = - cmpL b a
  | [], [] => rfl
  | [], _ :: _ => rfl
  | _ :: _, [] => rfl
  | a :: r, b :: t => by
    have h := cmpI_neg a b
    simp only [cmpL]
    rw [cmpL_neg r t]
    split <;> split <;> omega
theorem cmpL_trans : ∀ {a b c : List Int}, cmpL a b < 0 → cmpL b c < 0 → cmpL a c < 0
  | [], [], _, h, _ => by simp [cmpL] at h
  | [], _ :: _, [], _, h => by simp [cmpL] at h
  | [], _ :: _, _ :: _, _, _ => by simp [cmpL]
  | _ :: _, [], _, h, _ => by simp [cmpL] at h
  | _ :: _, _ :: _, [], _, h => by simp [cmpL] at h
  | a :: r, b :: t, c :: s, h1, h2 => by
    simp only [cmpL] at h1 h2 ⊢
    have ht := @cmpL_trans r t s
    by_cases e1 : cmpI a b = 0
    · rw [if_pos e1] at h1
      have e : a = b := by unfold cmpI at e1; split at e1; omega; split at e1; omega; omega
      subst e
      by_cases e2 : cmpI a c = 0
      · rw [if_pos e2] at h2 ⊢; exact ht h1 h2
      · rw [if_neg e2] at h2 ⊢; exact h2
    · rw [if_neg e1] at h1
      have l1 : a < b := by unfold cmpI at h1; split at h1; assumption; split at h1; omega; omega
      by_cases e2 : cmpI b c = 0
      · have e : b = c := by unfold cmpI at e2; split at e2; omega; split at e2; omega; omega
        subst e
        rw [if_neg e1]; exact h1
      · rw [if_neg e2] at h2
        have l2 : b < c := by unfold cmpI at h2; split at h2; assumption; split at h2; omega; omega
        have l3 : cmpI a c = -1 := by unfold cmpI; rw [if_pos (by omega)]
        rw [if_neg (by omega), l3]; decide
theorem cmpL_le_trans {a b c : List Int} (h1 : cmpL a b ≤ 0) (h2 : cmpL b c ≤ 0) : cmpL a c ≤ 0 := by
  rcases Int.lt_or_eq_of_le h1 with h1 | h1
  · rcases Int.lt_or_eq_of_le h2 with h2 | h2
    · exact Int.le_of_lt (cmpL_trans h1 h2)
    · rw [← cmpL_zero h2]; exact Int.le_of_lt h1
  · rw [cmpL_zero h1]; exact h2
/-- The list in order. -/
def sortLL (l : List (List Int)) : List (List Int) := l.mergeSort (fun a b => decide (cmpL a b ≤ 0))
theorem sortLL_perm (l : List (List Int)) : (sortLL l).Perm l := List.mergeSort_perm _ _
theorem sortLL_len (l : List (List Int)) : (sortLL l).length = l.length := (sortLL_perm l).length_eq
theorem sortLL_sorted (l : List (List Int)) : (sortLL l).Pairwise (fun a b => cmpL a b ≤ 0) := by
  have h := List.pairwise_mergeSort (le := fun a b => decide (cmpL a b ≤ 0)) (fun a b c h1 h2 => by
    simp only [decide_eq_true_eq] at *; exact cmpL_le_trans h1 h2) (fun a b => by
    have := cmpL_neg a b
    simp only [Bool.or_eq_true, decide_eq_true_eq]; omega) l
  exact h.imp (fun h => by simpa using h)
theorem sortLL_uniq {l m : List (List Int)} (hp : m.Perm l) (hs : m.Pairwise (fun a b => cmpL a b ≤ 0)) : m = sortLL l :=
  (hp.trans (sortLL_perm l).symm).eq_of_pairwise (fun a b _ _ h1 h2 => cmpL_zero (by have := cmpL_neg a b; omega)) hs (sortLL_sorted l)

/-- Lists beside the values that stand for them. -/
abbrev SE (Q : List Int → Value → Prop) := { p : List Int × Value // Q p.1 p.2 }
theorem se_list {Q : List Int → Value → Prop} : ∀ (l : List (List Int)) (vs : List Value), l.length = vs.length → (∀ (j : Nat) x u, l[j]? = some x → vs[j]? = some u → Q x u) → ∃ d : List (SE Q), d.map (fun p => p.1.1) = l ∧ d.map (fun p => p.1.2) = vs
  | [], [], _, _ => ⟨[], rfl, rfl⟩
  | [], _ :: _, h, _ => by cases h
  | _ :: _, [], h, _ => by cases h
  | x :: l, u :: vs, h, hq => by
    obtain ⟨d, h1, h2⟩ := se_list l vs (by simpa using h) (fun j x u hx hu => hq (j + 1) x u (by simpa using hx) (by simpa using hu))
    exact ⟨⟨(x, u), hq 0 x u rfl rfl⟩ :: d, by simp [h1], by simp [h2]⟩
section
variable {α : Type} [Inhabited α] {enc : α → Value} {w : World} {g n : Nat} {os : Array Go.Obj}
theorem sw_old {d : Array α} {k : Nat} (hk : k < w.heap.size) (hne : k ≠ g) : (sortWorld enc w g 0 n d os).heap[k]? = w.heap[k]? := by
  unfold sortWorld
  rw [Go.Sort.heap_grow_old _ _ (by simpa using hk)]
  simp [Go.Sort.putRow, Go.Sort.mapBlock, Go.Sort.ahead, Array.getElem?_modify, Ne.symm hne]
theorem sw_size {d : Array α} : w.heap.size ≤ (sortWorld enc w g 0 n d os).heap.size := by
  simp [sortWorld, Go.Sort.grow]
theorem sw_row {d : Array α} {cur : Array Value} {e : TypeId} {fr : Nat × Nat} (hb : w.heap[g]? = some (.cells cur e fr)) :
    (sortWorld enc w g 0 n d os).heap[g]? = some (.cells (Go.Sort.putCells enc 0 d cur) e fr) := by
  have hg : g < w.heap.size := (Array.getElem?_eq_some_iff.1 hb).1
  unfold sortWorld
  rw [Go.Sort.heap_grow_old _ _ (by simpa using hg)]
  simp [Go.Sort.putRow, Go.Sort.mapBlock, Go.Sort.ahead, Array.getElem?_modify, hb, Go.Sort.onCells]
theorem take_pc (cur : Array Value) (ts : List α) (h : ts.length ≤ cur.size) : (Go.Sort.putCells enc 0 ts.toArray cur).toList.take ts.length = ts.map enc := by
  apply List.ext_getElem?
  intro j
  by_cases hj : j < ts.length
  · rw [List.getElem?_take_of_lt hj, Array.getElem?_toList]
    simp [Go.Sort.putCells, hj, show j < cur.size by omega]
  · rw [List.getElem?_take_eq_none (by omega), List.getElem?_eq_none (by simp; omega)]
theorem holds_of {cur : Array Value} {e : TypeId} {ss : List α} (hb : w.heap[g]? = some (.cells cur e (0, 0))) (ht : cur.toList.take ss.length = ss.map enc) : Go.Sort.Holds enc w g 0 ss.toArray := by
  intro j hj
  have hj' : j < ss.length := by simpa using hj
  refine ⟨?_, by simp [World.frozen?, hb]⟩
  have h1 : (cur.toList.take ss.length)[j]? = (ss.map enc)[j]? := by rw [ht]
  rw [List.getElem?_take_of_lt hj'] at h1
  simp only [World.cell?, hb, Nat.zero_add]
  simp only [Option.isSome_none, Bool.false_eq_true, if_false]
  rw [← Array.getElem?_toList, h1]
  simp [hj']
end
theorem sort_spec {P : Program} {ρ : Go.Shelf.Ren} {g T : Nat} (hL : Go.Proofs.SlLaysF.n6 P ρ) (eg : ∀ args w, (callFunc g args).run P w = .ok (.enter g args) w)
    (hE : ∀ a b : List Int, a.length < 2 ^ 40 → b.length < 2 ^ 40 → SpecE P g [L a, L b] (.int .i64 (cmpL a b))) (l : List (List Int)) (h0 : 1 ≤ l.length) (hl : l.length < 2 ^ 40) (hb : ∀ x ∈ l, x.length < 2 ^ 40) :
    SpecM P (ρ.f 6) [(2000000, Ow T 1 cL l)] [.own 2000000 [], .clo g 0 []] (.tup []) [(2000000, Ow T 1 cL (sortLL l))] := by
  intro w n ok hok ψ0 φ0 vs hsz hp0 hro
  obtain ⟨v0, v1, rfl⟩ : ∃ v0 v1, vs = #[v0, v1] := by
    rcases vs with ⟨_ | ⟨a, _ | ⟨b, _ | ⟨c, r⟩⟩⟩⟩ <;> simp at hsz
    exact ⟨a, b, rfl⟩
  have r0 := (hro 0 _ v0 rfl rfl).own_inv
  obtain ⟨vf, vc, rfl, hcl, hvf, _⟩ := (hro 1 _ v1 rfl rfl).clo_inv
  have e0 : v0 = φ0 2000000 := r0.1
  have ef : vf = #[] := by simpa using hvf
  have ec : vc = #[] := by subst ef; simpa using hcl
  subst ef; subst ec
  generalize hC : mkM w n ok hok ψ0 φ0 [(2000000, Ow T 1 cL l)] = C at hp0 hro ⊢
  have hC0 : C.w0 = w := by rw [← hC]; rfl
  have hCb : C.bor = inO ψ0 [(2000000, Ow T 1 cL l)] := by rw [← hC]; rfl
  have ho : TreeAt w 0 (okS C ψ0 [(2000000, Ow T 1 cL l)] w) (.leaf T 1 (l.map cL)) (φ0 2000000) (ψ0 2000000) := hp0.objs 2000000 _ rfl
  rw [← e0] at ho
  generalize hfp : ψ0 2000000 = fp at ho
  cases ho with
  | leaf _ _ _ _ us how hf =>
    rw [List.length_map] at how
    rcases how.2 with ⟨_, hn0⟩ | ⟨k, cap, cur, rfl, _, hk, hnc, hcm, hcs, hct⟩
    · omega
    have hfp : ψ0 2000000 = [k] := by rw [hfp]; rfl
    have hkl : k < w.heap.size := (Array.getElem?_eq_some_iff.1 hk).1
    have hun : us.length = l.length := by have := how.1; omega
    let Q : List Int → Value → Prop := fun x u => u.oneCell' = true ∧ x.length < 2 ^ 40 ∧ RO w (okS C ψ0 [(2000000, Ow T 1 cL l)] w) (L x) u
    obtain ⟨d, hd1, hd2⟩ := se_list (Q := Q) l us hun.symm (fun j x u hx hu => by
      refine ⟨hf.one u (List.mem_of_getElem? hu), hb x (List.mem_of_getElem? hx), ?_⟩
      obtain ⟨u', hu', hr⟩ := hf.at_ j (cL x) 0 (L x) (by rw [List.getElem?_map, hx]; rfl) rfl
      rw [Nat.mul_one, Nat.add_zero, hu] at hu'
      cases hu'
      exact hr)
    have hdl : d.length = l.length := by rw [← hd1, List.length_map]
    haveI : Inhabited (SE Q) := ⟨⟨([], .slice none 0 0), rfl, by decide, .slNil 1⟩⟩
    have hok1 : ∀ k', okS C ψ0 [(2000000, Ow T 1 cL l)] w k' → k' < w.heap.size ∧ k' ≠ k := fun k' h => ⟨h.2.1, fun e => h.2.2 2000000 _ rfl (by rw [hfp, e]; simp)⟩
    have hcmp : Go.Proofs.CmpReads P g #[] (fun p : SE Q => p.1.2) (fun p q => cmpL p.1.1 q.1.1) k 0 d.toArray.size w := by
      intro m os dk hds x y
      have h := hE x.1.1 y.1.1 x.2.2.1 y.2.2.1 (sortWorld (fun p : SE Q => p.1.2) w k 0 m dk os) (okS C ψ0 [(2000000, Ow T 1 cL l)] w) #[x.1.2, y.1.2] (fun k' h => Nat.lt_of_lt_of_le (hok1 k' h).1 sw_size) rfl (fun j a u ha hu => by
        have hmv : ∀ k', okS C ψ0 [(2000000, Ow T 1 cL l)] w k' → (sortWorld (fun p : SE Q => p.1.2) w k 0 m dk os).heap[k']? = w.heap[k']? := fun k' h => sw_old (hok1 k' h).1 (hok1 k' h).2
        match j, ha, hu with
        | 0, ha, hu => cases ha; cases hu; exact x.2.2.2.move hmv (fun _ h => h)
        | 1, ha, hu => cases ha; cases hu; exact y.2.2.2.move hmv (fun _ h => h)
        | j + 2, ha, hu => cases ha)
      exact h.mono (fun e w' ⟨he, hw⟩ => ⟨he, 0, hw⟩)
    have hO : Go.Sort.SWO (Go.Proofs.ltOf fun p q : SE Q => cmpL p.1.1 q.1.1) := by
      refine ⟨fun x => ?_, fun x y z h1 h2 => ?_, fun x y z h1 h2 => ?_⟩
      · simp only [Go.Proofs.ltOf, cmpL_refl]; rfl
      · simp only [Go.Proofs.ltOf, decide_eq_true_eq] at *; exact cmpL_trans h1 h2
      · simp only [Go.Proofs.ltOf, decide_eq_false_iff_not, Int.not_lt] at *
        have e1 := cmpL_neg x.1.1 y.1.1
        have e2 := cmpL_neg y.1.1 z.1.1
        have e3 := cmpL_neg x.1.1 z.1.1
        have := @cmpL_le_trans z.1.1 y.1.1 x.1.1 (by omega) (by omega)
        omega
    have hcon := Go.Proofs.Any.slices_SortFunc hL (fun p : SE Q => p.1.2) (fun x => x.2.1) (fun p q => cmpL p.1.1 q.1.1) hO g #[] k 0 cap d.toArray w eg hcmp.lays (holds_of hk (by rw [hdl, ← Nat.mul_one l.length, hct, hd2])) hkl (by simp [hdl]; omega)
    rw [show d.toArray.size = l.length by simp [hdl]] at hcon
    refine hcon.mono (fun e w' ⟨he, d', m, os, hpm, hsr, hw⟩ => ⟨.tuple #[], ψ0, φ0, he, ?_, .ro (.tup [] #[] rfl (fun j a u ha => by cases ha))⟩)
    have hd'n : d'.size = l.length := by have := hpm.1; simpa [hdl] using this
    have hperm : d'.toList.Perm d := by
      have h := hpm.2.2
      rwa [show d'.extract 0 l.length = d' by rw [← hd'n]; simp, show d.toArray.extract 0 l.length = d.toArray by rw [← hdl]; simp] at h
    have hsort : d'.toList.map (fun p => p.1.1) = sortLL l := by
      refine sortLL_uniq (by rw [← hd1]; exact hperm.map _) ?_
      rw [List.pairwise_iff_getElem]
      intro i j hi hj hij
      simp only [List.length_map, Array.length_toList] at hi hj
      have h := hsr i j (Nat.zero_le _) hij (by omega)
      rw [getElem!_pos d' i hi, getElem!_pos d' j hj] at h
      simp only [Go.Proofs.ltOf, decide_eq_false_iff_not, Int.not_lt] at h
      simp only [List.getElem_map, Array.getElem_toList]
      have := cmpL_neg (d'[i]'hi).1.1 (d'[j]'hj).1.1
      omega
    have hkk : ∀ i (o : Obj), lk i [(2000000, Ow T 1 cL (sortLL l))] = some o → i = 2000000 ∧ o = Ow T 1 cL (sortLL l) := by
      intro i o h
      simp only [lk] at h
      cases e : Nat.beq 2000000 i with
      | true => rw [e] at h; exact ⟨(Nat.eq_of_beq_eq_true e).symm, by cases h; rfl⟩
      | false => rw [e] at h; cases h
    have hokk : ∀ k', okS C ψ0 [(2000000, Ow T 1 cL l)] w k' → okS C ψ0 [(2000000, Ow T 1 cL (sortLL l))] w' k' := fun k' h =>
      ⟨h.1, by rw [hw]; exact Nat.lt_of_lt_of_le h.2.1 sw_size, fun i o hi => by rw [(hkk i o hi).1]; exact h.2.2 2000000 _ rfl⟩
    refine ⟨?_, fun i o hi => ?_, fun i j oi oj k' hi hj _ _ => (hkk i oi hi).1.trans (hkk j oj hj).1.symm, fun i o k' hi hk' => ?_, fun i v o hv hi hfx => ?_⟩
    · rw [hC0, hCb, hw]
      exact ⟨rfl, rfl, rfl, sw_size, fun k' hk' hne => sw_old hk' (fun e => hne ⟨2000000, _, rfl, by rw [hfp, e]; simp⟩)⟩
    · obtain ⟨rfl, rfl⟩ := hkk i o hi
      show TreeAt w' 0 _ (.leaf T 1 ((sortLL l).map cL)) (φ0 2000000) (ψ0 2000000)
      rw [← e0, hfp]
      have hown : w'.ownsRow 0 T 1 (.slice (some ⟨k, 0, none⟩) l.length cap) ((sortLL l).map cL).length (d'.toList.map (fun p => p.1.2)) := by
        rw [List.length_map, sortLL_len]
        refine ⟨by simp [hd'n], .inr ⟨k, cap, _, rfl, Nat.zero_le _, by rw [hw]; exact sw_row hk, hnc, hcm, by simp [Go.Sort.putCells, hcs], ?_⟩⟩
        have h := take_pc (enc := fun p : SE Q => p.1.2) cur d'.toList (by rw [Array.length_toList]; omega)
        rw [Array.length_toList, hd'n] at h
        rw [Nat.mul_one]
        simpa using h
      refine TreeAt.leaf (w := w') T 1 _ _ _ hown ⟨by simp [hd'n, sortLL_len], fun u hu => ?_, fun x hx => ?_, fun j x c a hx ha => ?_⟩
      · obtain ⟨p, _, rfl⟩ := List.mem_map.1 hu
        exact p.2.1
      · obtain ⟨y, _, rfl⟩ := List.mem_map.1 hx
        rfl
      · rw [← hsort, List.map_map, List.getElem?_map] at hx
        cases hq : d'.toList[j]? with
        | none => rw [hq] at hx; cases hx
        | some p =>
          rw [hq] at hx
          cases hx
          match c, ha with
          | 0, ha =>
            cases ha
            refine ⟨p.1.2, by rw [Nat.mul_one, Nat.add_zero, List.getElem?_map, hq]; rfl, ?_⟩
            exact p.2.2.2.move (fun k' h => by rw [hw]; exact sw_old (hok1 k' h).1 (hok1 k' h).2) hokk
          | c + 1, ha => cases ha
    · rw [(hkk i o hi).1] at hk'
      exact hp0.own 2000000 _ k' rfl hk'
    · rw [(hkk i o hi).1] at hv ⊢
      exact hp0.fix 2000000 v _ hv rfl rfl
end Go.Proofs.YtmiijpobhajfmaaGreat.J
namespace Go.Proofs.YtmiijpobhajfmaaGreat.J
open Go Go.RowKit
set_option linter.unusedVariables false
set_option linter.unusedSimpArgs false

theorem wrap_i64n (a : Nat) (h : a < 2 ^ 62) : IntKind.i64.wrap (a : Int) = a := by
  simp [IntKind.wrap, IntKind.bits, IntKind.signed]; omega
theorem ofInt_n (a : Nat) (h : a < 2 ^ 62) : (BitVec.ofInt 64 (a : Int)).toNat = a := by
  rw [BitVec.ofInt_natCast, BitVec.toNat_ofNat]; exact Nat.mod_eq_of_lt (by omega)
theorem or_n {a b : Nat} (ha : a < 256) (hb : b < 256) : Go.bits .or .i64 (a : Int) (b : Int) = ((a ||| b : Nat) : Int) ∧ a ||| b < 256 := by
  have hx : a ||| b < 2 ^ 8 := Nat.or_lt_two_pow (by omega) (by omega)
  refine ⟨?_, by omega⟩
  show IntKind.i64.wrap ((BitVec.ofInt 64 (a : Int) ||| BitVec.ofInt 64 (b : Int)).toNat : Int) = _
  rw [BitVec.toNat_or, ofInt_n a (by omega), ofInt_n b (by omega), wrap_i64n _ (by omega)]
theorem and_n {a b : Nat} (ha : a < 256) (hb : b < 256) : Go.bits .and .i64 (a : Int) (b : Int) = ((a &&& b : Nat) : Int) ∧ a &&& b < 256 := by
  have hx : a &&& b < 2 ^ 8 := Nat.and_lt_two_pow _ (by omega)
  refine ⟨?_, by omega⟩
  show IntKind.i64.wrap ((BitVec.ofInt 64 (a : Int) &&& BitVec.ofInt 64 (b : Int)).toNat : Int) = _
  rw [BitVec.toNat_and, ofInt_n a (by omega), ofInt_n b (by omega), wrap_i64n _ (by omega)]
theorem anot_n {a b : Nat} (ha : a < 256) (hb : b < 256) : Go.bits .andNot .i64 (a : Int) (b : Int) = ((a ^^^ (a &&& b) : Nat) : Int) ∧ a ^^^ (a &&& b) < 256 := by
  have h1 : a &&& b < 2 ^ 8 := Nat.and_lt_two_pow _ (by omega)
  have hx : a ^^^ (a &&& b) < 2 ^ 8 := Nat.xor_lt_two_pow (by omega) h1
  refine ⟨?_, by omega⟩
  show IntKind.i64.wrap ((BitVec.ofInt 64 (a : Int) &&& ~~~ BitVec.ofInt 64 (b : Int)).toNat : Int) = _
  have e : BitVec.ofInt 64 (a : Int) &&& ~~~ BitVec.ofInt 64 (b : Int) = BitVec.ofInt 64 (a : Int) ^^^ (BitVec.ofInt 64 (a : Int) &&& BitVec.ofInt 64 (b : Int)) := by
    apply BitVec.eq_of_getLsbD_eq
    intro i hi
    simp only [BitVec.getLsbD_and, BitVec.getLsbD_not, BitVec.getLsbD_xor, hi]
    cases (BitVec.ofInt 64 (a : Int)).getLsbD i <;> cases (BitVec.ofInt 64 (b : Int)).getLsbD i <;> rfl
  rw [e, BitVec.toNat_xor, BitVec.toNat_and, ofInt_n a (by omega), ofInt_n b (by omega), wrap_i64n _ (by omega)]
theorem anot_bit (a b i : Nat) : (a ^^^ (a &&& b)).testBit i = (a.testBit i && !b.testBit i) := by
  rw [Nat.testBit_xor, Nat.testBit_and]
  cases a.testBit i <;> cases b.testBit i <;> rfl
theorem bit1_n {x : Nat} (h : x < 8) : bit1 (x : Int) = ((2 ^ x : Nat) : Int) ∧ 2 ^ x < 256 := by
  rcases x with _ | _ | _ | _ | _ | _ | _ | _ | x <;> first | exact ⟨rfl, by decide⟩ | omega
theorem bitT_n {a x : Nat} (ha : a < 256) (h : x < 8) : bitT (a : Int) (x : Int) = a.testBit x := by
  unfold bitT
  have e1 : min (x : Int).toNat (IntKind.bits .i64) = x := by
    rw [Int.toNat_natCast]; exact Nat.min_eq_left (by show x ≤ 64; omega)
  rw [e1, show ((a : Int) / 2 ^ x) = ((a / 2 ^ x : Nat) : Int) by simp]
  have h1 : a / 2 ^ x < 256 := Nat.lt_of_le_of_lt (Nat.div_le_self _ _) ha
  rw [show (1 : Int) = ((1 : Nat) : Int) from rfl, (and_n h1 (by omega)).1, Nat.testBit_eq_decide_div_mod_eq, Nat.and_one_is_mod]
  by_cases c : a / 2 ^ x % 2 = 1
  · simp [c]
  · have : ¬ (((a / 2 ^ x % 2 : Nat) : Int) = ((1 : Nat) : Int)) := by omega
    simp only [this, c]
/-- A number that stands for a set. -/
def msk (m : Int) : Prop := 0 ≤ m ∧ m < 256
theorem msk_n {m : Int} (h : msk m) : ∃ a : Nat, m = a ∧ a < 256 := ⟨m.toNat, by have := h.1; omega, by have := h.1; have := h.2; omega⟩
theorem msk_of {a : Nat} (h : a < 256) : msk (a : Int) := ⟨by omega, by omega⟩
theorem msk_or {a b : Int} (ha : msk a) (hb : msk b) : msk (Go.bits .or .i64 a b) ∧ ∀ x : Nat, x < 8 → bitT (Go.bits .or .i64 a b) (x : Int) = (bitT a x || bitT b x) := by
  obtain ⟨a, rfl, ka⟩ := msk_n ha; obtain ⟨b, rfl, kb⟩ := msk_n hb; clear ha hb; have ha := ka; have hb := kb
  have h := or_n ha hb
  rw [h.1]
  exact ⟨msk_of h.2, fun x hx => by rw [bitT_n h.2 hx, bitT_n ha hx, bitT_n hb hx, Nat.testBit_or]⟩
theorem msk_and {a b : Int} (ha : msk a) (hb : msk b) : msk (Go.bits .and .i64 a b) ∧ ∀ x : Nat, x < 8 → bitT (Go.bits .and .i64 a b) (x : Int) = (bitT a x && bitT b x) := by
  obtain ⟨a, rfl, ka⟩ := msk_n ha; obtain ⟨b, rfl, kb⟩ := msk_n hb; clear ha hb; have ha := ka; have hb := kb
  have h := and_n ha hb
  rw [h.1]
  exact ⟨msk_of h.2, fun x hx => by rw [bitT_n h.2 hx, bitT_n ha hx, bitT_n hb hx, Nat.testBit_and]⟩
theorem msk_anot {a b : Int} (ha : msk a) (hb : msk b) : msk (Go.bits .andNot .i64 a b) ∧ ∀ x : Nat, x < 8 → bitT (Go.bits .andNot .i64 a b) (x : Int) = (bitT a x && !bitT b x) := by
  obtain ⟨a, rfl, ka⟩ := msk_n ha; obtain ⟨b, rfl, kb⟩ := msk_n hb; clear ha hb; have ha := ka; have hb := kb
  have h := anot_n ha hb
  rw [h.1]
  exact ⟨msk_of h.2, fun x hx => by rw [bitT_n h.2 hx, bitT_n ha hx, bitT_n hb hx, anot_bit]⟩
theorem msk_one {x : Nat} (h : x < 8) : msk (bit1 (x : Int)) ∧ ∀ y : Nat, y < 8 → bitT (bit1 (x : Int)) (y : Int) = decide (x = y) := by
  have h1 := bit1_n h
  rw [h1.1]
  exact ⟨msk_of h1.2, fun y hy => by rw [bitT_n h1.2 hy, Nat.testBit_two_pow]⟩
theorem msk_zero : msk 0 ∧ ∀ y : Nat, y < 8 → bitT 0 (y : Int) = false :=
  ⟨⟨by omega, by omega⟩, fun y hy => by have := bitT_n (a := 0) (by omega) hy; simpa using this⟩
theorem msk_ext {a b : Int} (ha : msk a) (hb : msk b) (h : ∀ x : Nat, x < 8 → bitT a x = bitT b x) : a = b := by
  obtain ⟨a, rfl, ka⟩ := msk_n ha; obtain ⟨b, rfl, kb⟩ := msk_n hb; clear ha hb; have ha := ka; have hb := kb
  congr 1
  apply Nat.eq_of_testBit_eq
  intro i
  by_cases hi : i < 8
  · have := h i hi; rwa [bitT_n ha hi, bitT_n hb hi] at this
  · have hp : 256 ≤ 2 ^ i := by
      have : (2 : Nat) ^ 8 ≤ 2 ^ i := Nat.pow_le_pow_right (by omega) (by omega)
      simpa using this
    rw [Nat.testBit_lt_two_pow (by omega), Nat.testBit_lt_two_pow (by omega)]
theorem closed_msk {w : List Int} (hw : ∀ x ∈ w, 0 ≤ x ∧ x < 256) (h8 : w.length ≤ 8) {x : Int} (hx : 0 ≤ x ∧ x < (w.length : Int)) : 0 ≤ closedW w x ∧ closedW w x < 256 := by
  obtain ⟨n, rfl⟩ : ∃ n : Nat, x = n := ⟨x.toNat, by omega⟩
  exact (msk_or (hw _ (gi_mem (by omega))) (msk_one (x := n) (by omega)).1).1
end Go.Proofs.YtmiijpobhajfmaaGreat.J
namespace Go.Proofs.YtmiijpobhajfmaaGreat.J
open Go Go.RowKit
set_option maxRecDepth 20000
set_option linter.unusedVariables false
set_option linter.unusedSimpArgs false

theorem SortFunc_spec (l : List (List Int)) (h0 : 1 ≤ l.length) (hl : l.length < 2 ^ 40) (hb : ∀ x ∈ l, x.length < 2 ^ 40) : SpecM Tryz.prog 131 [(2000000, Ow 37 1 cL l)] [.own 2000000 [], .clo 122 0 []] (.tup []) [(2000000, Ow 37 1 cL (sortLL l))] :=
  sort_spec srtLay (Go.Proofs.enters_of Tryz.func122 (by kernel_rfl) rfl) (fun a b ha hb => CmpL_e a b ha hb) l h0 hl hb
section
variable {P : Program} {C : Ctx} {o : Oper} {s : AS}
theorem evA_c {x : Operand} {xs : List Operand} {a : AV} {bs : List AV} (h : ev s x = some a) (h2 : evA s xs bs) : evA s (x :: xs) (a :: bs) := ⟨h, h2⟩
theorem evA_n : evA s [] [] := trivial
/-- A literal of one nil slice, as a row of rows. -/
theorem op_lit_nilN {x : Operand} {T E E2 by_ d : Nat} (hT : slK P T = some (E, 1, by_)) (ho : o.op = .buildSlice T 1 #[(0, x)]) (hd : o.dst = some d) (hn : d < C.n) (hi : lk d s.objs = none) (hx : ev s x = some (.val (.slice none 0 0))) :
    OpD P C [] o s ⟨(d, .own d []) :: s.env, (d, Nd E (lf E2 1 cI) [[]]) :: s.objs⟩ :=
  OpD.new hd hn hi ⟨_, rfl⟩ (fun ψ φ a w hF => by
    have e1 : a.eval x = .slice none 0 0 := hF.ev_val hx
    refine ⟨.slice (some ⟨w.heap.size, 0, none⟩) 1 1, w.alloc (.cells #[.slice none 0 0] E), [w.heap.size], ?_, below_alloc _ _, fun k hk => ?_, fun ok ids ψ' φ' k1 k2 => ?_, fun ok ids ψ' φ' k1 k2 => ?_⟩
    · have := run_buildSlice' (P := P) hT [a.eval x] (by simp [e1, Value.cells]) (by simp) w
      have h : (Instr.buildSlice T 1 #[(0, Value.slice none 0 0)]).run P w = .ok (.slice (some ⟨w.heap.size, 0, none⟩) 1 1) (w.alloc (.cells #[.slice none 0 0] E)) := by simpa [e1, Value.cells] using this
      simp [execOp, ho, e1, h]
    · simp at hk
      omega
    · have h := TreeAt.node (w := w.alloc (.cells #[.slice none 0 0] E)) (B := 0) (ok := ok) E [.leaf E2 1 []] (.slice (some ⟨w.heap.size, 0, none⟩) 1 1) [.slice none 0 0] [[]] (flat_owns_one (Nat.zero_le _) _) rfl (fun q t' u f h1 h2 h3 => by
        cases q with
        | zero =>
          obtain rfl : Tr.leaf E2 1 [] = t' := by simpa using h1
          obtain rfl : Value.slice none 0 0 = u := by simpa using h2
          obtain rfl : [] = f := by simpa using h3
          exact TreeAt.leaf E2 1 [] (.slice none 0 0) [] (World.ownsRow_nil _ _ E2 1) (Flat.nil _ _ _)
        | succ q => simp at h1) (by simp [blk])
      show TreeAt _ 0 ok (.node E [.leaf E2 1 []]) _ _
      simpa [blk] using h
    · exact .own d [] _ k1 k2.symm)
end
/-- The moves after one more cop. -/
def mvS (w : List Int) (m : List (List Int)) (c : Int) : List (List Int) := m.flatMap (fun l => (setW (closedW w c)).map (fun x => l ++ [x]))
def mvA (w cs : List Int) : List (List Int) := cs.foldl (mvS w) [[]]
/-- All lists to which cops can move. -/
def mvW (w cs : List Int) : List (List Int) := dd (sortLL ((mvA w cs).map sortL))
theorem mvA_step {w cs : List Int} {i : Nat} (h : i < cs.length) : mvA w (cs.take (i + 1)) = mvS w (mvA w (cs.take i)) (gi cs i) := by
  rw [take_gi h, mvA, List.foldl_append]; rfl
theorem setW_len (s : Int) : (setW s).length ≤ 8 := by
  unfold setW
  exact Nat.le_trans (List.length_filter_le _ _) (by rw [ints_length]; exact Nat.le_refl _)
theorem mvS_len (w : List Int) (c : Int) : ∀ m : List (List Int), (mvS w m c).length ≤ 8 * m.length
  | [] => Nat.le_refl _
  | l :: m => by
    have h := mvS_len w c m
    have h2 := setW_len (closedW w c)
    simp only [mvS, List.flatMap_cons, List.length_append, List.length_map, List.length_cons] at h ⊢
    omega
theorem mvA_len3 (w : List Int) {cs : List Int} {i : Nat} (hi : i ≤ cs.length) (h3 : cs.length ≤ 3) : (mvA w (cs.take i)).length ≤ 512 := by
  have key : ∀ i, i ≤ cs.length → (mvA w (cs.take i)).length ≤ 8 ^ i := by
    intro i
    induction i with
    | zero => intro _; simp [mvA]
    | succ i ih =>
      intro h
      rw [mvA_step (by omega)]
      have h1 := mvS_len w (gi cs i) (mvA w (cs.take i))
      have h2 := ih (by omega)
      rw [Nat.pow_succ]; omega
  exact Nat.le_trans (key i hi) (Nat.pow_le_pow_right (by omega) (by omega : i ≤ 3))
theorem mvA_mem {w cs : List Int} {i : Nat} (hi : i ≤ cs.length) : ∀ l ∈ mvA w (cs.take i), l.length = i := by
  induction i with
  | zero => intro l hl; simp [mvA] at hl; simp [hl]
  | succ i ih =>
    intro l hl
    rw [mvA_step (by omega)] at hl
    obtain ⟨m, hm, hl⟩ := List.mem_flatMap.1 hl
    obtain ⟨x, _, rfl⟩ := List.mem_map.1 hl
    simp [ih (by omega) m hm]
theorem self_mem {w : List Int} (hw : ∀ x ∈ w, 0 ≤ x ∧ x < 256) (h8 : w.length ≤ 8) {x : Int} (hx : 0 ≤ x ∧ x < (w.length : Int)) : x ∈ setW (closedW w x) := by
  obtain ⟨n, rfl⟩ : ∃ n : Nat, x = n := ⟨x.toNat, by omega⟩
  unfold setW
  rw [List.mem_filter]
  refine ⟨ints_mem.2 (by omega), ?_⟩
  have h1 := msk_one (x := n) (by omega)
  show bitT (Go.bits .or .i64 (gi w (n : Int)) (bit1 (n : Int))) (n : Int) = true
  rw [(msk_or (hw _ (gi_mem (by omega))) h1.1).2 n (by omega), h1.2 n (by omega)]
  simp
theorem mvA_pos {w cs : List Int} (hw : ∀ x ∈ w, 0 ≤ x ∧ x < 256) (h8 : w.length ≤ 8) (hcs : ∀ x ∈ cs, 0 ≤ x ∧ x < (w.length : Int)) {i : Nat} (hi : i ≤ cs.length) : 1 ≤ (mvA w (cs.take i)).length := by
  induction i with
  | zero => simp [mvA]
  | succ i ih =>
    have h1 := ih (by omega)
    rw [mvA_step (by omega)]
    have h2 := self_mem hw h8 (hcs _ (gi_mem (l := cs) (i := i) (by omega)))
    cases hm : mvA w (cs.take i) with
    | nil => rw [hm] at h1; simp at h1
    | cons a r =>
      have h3 : 1 ≤ (setW (closedW w (gi cs i))).length := List.length_pos_of_mem h2
      simp only [mvS, List.flatMap_cons, List.length_append, List.length_map]
      omega
theorem mvS_part_len (w : List Int) (c : Int) {m : List (List Int)} {j : Nat} (h : m.length ≤ 512) : (mvS w (m.take j) c).length ≤ 4096 := by
  have h1 := mvS_len w c (m.take j)
  have h2 : (m.take j).length ≤ 512 := by rw [List.length_take]; omega
  omega
theorem mvS_step {w : List Int} {c : Int} {m : List (List Int)} {j : Nat} (h : j < m.length) : mvS w (m.take (j + 1)) c = mvS w (m.take j) c ++ (setW (closedW w c)).map (fun x => gi m j ++ [x]) := by
  rw [take_gi h, mvS, List.flatMap_append]
  simp [mvS]
/-- The first lists sorted. -/
def srtM (l : List (List Int)) (m : Nat) : List (List Int) := (l.take m).map sortL ++ l.drop m
theorem srtM_len (l : List (List Int)) (m : Nat) : (srtM l m).length = l.length := by
  simp [srtM]; omega
theorem srtM_gi {l : List (List Int)} {m : Nat} (h : m < l.length) : gi (srtM l m) (m : Int) = gi l (m : Int) := by
  rw [gi_natG (by rw [srtM_len]; exact h), gi_natG h]
  simp only [srtM]
  rw [List.getElem_append_right (by simp; omega)]
  simp [Nat.min_eq_left (Nat.le_of_lt h)]
theorem srtM_mem {l : List (List Int)} {m i : Nat} (h : ∀ x ∈ l, x.length = i) : ∀ x ∈ srtM l m, x.length = i := by
  intro x hx
  rcases List.mem_append.1 hx with hx | hx
  · obtain ⟨y, hy, rfl⟩ := List.mem_map.1 hx
    rw [sortL_len]; exact h y (List.mem_of_mem_take hy)
  · exact h x (List.mem_of_mem_drop hx)
theorem srtM_step {l : List (List Int)} {m : Nat} (h : m < l.length) : (srtM l m).set m (sortL (gi (srtM l m) (m : Int))) = srtM l (m + 1) := by
  rw [srtM_gi h]
  simp only [srtM]
  rw [List.set_append_right _ _ (by simp; omega), take_gi h, List.map_append, List.append_assoc]
  congr 1
  rw [List.length_map, List.length_take, Nat.min_eq_left (Nat.le_of_lt h), Nat.sub_self, List.drop_eq_getElem_cons h]
  rfl
theorem srtM_all {l : List (List Int)} {m : Nat} (h : ¬ (m : Int) < l.length) : srtM l m = l.map sortL := by
  unfold srtM
  rw [take_all h, List.drop_eq_nil_of_le (by omega), List.append_nil]

theorem CopMoves_spec (w cs : List Int) (h8 : w.length ≤ 8) (hw : ∀ x ∈ w, 0 ≤ x ∧ x < 256) (h3 : cs.length ≤ 3) (hcs : ∀ x ∈ cs, 0 ≤ x ∧ x < (w.length : Int)) : Spec Tryz.prog 95 [Net w, L cs] (LL (mvW w cs)) [] := by
  refine Spec.intro (c := _) Tryz.func95 rfl (Nat.le_of_ble_eq_true rfl) (fun C hC hfx => ?_)
  have hn : C.n = 62 := hC
  refine (show J _ _ _ _ (⟨[(0, Net w), (1, L cs)], []⟩ : AS) from ?_)
  refine J_seq ?_
  refine J_region ?_
  refine jl_o rfl (op_box_agg rfl rfl (ltn hn rfl) rfl rfl rfl) ?_
  refine jl rfl rfl (ltn hn rfl) (pure_assign rfl rfl) ?_
  refine JL_nil ?_
  refine J_seq ?_
  refine J_region ?_
  refine jl_o rfl (op_lit_nilN (E2 := 3) (d := 15) SlT.slk rfl rfl (ltn hn rfl) rfl rfl) ?_
  refine jl rfl rfl (ltn hn rfl) (pure_assign rfl rfl) ?_
  refine JL_nil ?_
  refine J_seq ?_
  refine J_seq ?_
  refine J_region ?_
  refine JL_le (Le_ren C _ 15 800 rfl rfl (fun _ => hfx _)) ?_
  refine jl rfl rfl (ltn hn rfl) (pure_move rfl rfl) ?_
  refine jl rfl rfl (ltn hn rfl) (p_len_m rfl rfl) ?_
  refine jl rfl rfl (ltn hn rfl) (pure_move rfl rfl) ?_
  refine JL_nil ?_
  refine J_block ?_
  refine J_loop (X := Nat) (fun i => ⟨[(1, L cs), (2, .box 2 0), (5, .own 800 []), (16, L cs), (17, I (cs.length : Int)), (18, I (i : Nat))], [(2, .box 62 [L w]), (800, Nd 37 (lf 3 1 cI) (mvA w (cs.take i)))]⟩) (fun i => i ≤ cs.length) (fun i => cs.length - i) 0 ?_ ?_ ?_
  · omega
  ·
    refine Le_sub C _ _ ⟨rfl, ⟨rfl, ⟨rfl, ⟨rfl, ⟨rfl, ⟨rfl, trivial⟩⟩⟩⟩⟩⟩ ⟨rfl, ⟨rfl, trivial⟩⟩ rfl rfl
  ·
    intro i hi
    refine J_seq ?_
    refine J_region ?_
    refine jl rfl rfl (ltn hn rfl) (pure_lss rfl rfl rfl) ?_
    refine JL_nil ?_
    refine J_seq ?_
    refine J_cond_p rfl (fun h1 => ?_) (fun h1 => ?_)
    ·
      refine J_skip ?_
      refine J_seq ?_
      refine J_block ?_
      refine J_seq ?_
      refine J_region ?_
      refine jl rfl rfl (ltn hn rfl) (p_idx rfl rfl rfl (by omega) (mget (by omega))) ?_
      refine jl rfl rfl (ltn hn rfl) (p_ld rfl rfl rfl) ?_
      refine jl rfl rfl (ltn hn rfl) (pure_assign rfl rfl) ?_
      refine JL_nil ?_
      refine J_seq ?_
      refine J_region ?_
      refine jl rfl rfl (ltn hn rfl) (pure_assign rfl rfl) ?_
      refine JL_nil ?_
      refine J_seq ?_
      refine J_seq ?_
      refine J_le (Le_adopt C _ 8 900 (.node 37 []) rfl rfl (.inr ⟨_, rfl⟩)) ?_
      refine J_region ?_
      refine jl rfl rfl (ltn hn rfl) (pure_move rfl rfl) ?_
      refine jl rfl rfl (ltn hn rfl) (p_len_nm rfl rfl rfl) ?_
      refine jl rfl rfl (ltn hn rfl) (pure_move rfl rfl) ?_
      refine JL_nil ?_
      refine J_block ?_
      have hml := mvA_len3 w (cs := cs) (i := i) (by omega) h3
      have hcb := hcs _ (gi_mem (l := cs) (i := i) (by omega))
      have hcw := closed_msk hw h8 (x := gi cs i) hcb
      refine J_loop (X := Nat) (fun j => ⟨[(1, L cs), (2, .box 2 0), (5, .own 800 []), (7, I (gi cs i)), (8, .own 900 []), (16, L cs), (17, I (cs.length : Int)), (18, I (i : Nat)), (22, .own 800 []), (23, I ((mvA w (cs.take i)).length : Int)), (24, I (j : Nat))], [(2, .box 62 [L w]), (800, Nd 37 (lf 3 1 cI) (mvA w (cs.take i))), (900, Nd 37 (lf 3 1 cI) (mvS w ((mvA w (cs.take i)).take j) (gi cs i)))]⟩) (fun j => j ≤ (mvA w (cs.take i)).length) (fun j => (mvA w (cs.take i)).length - j) 0 ?_ ?_ ?_
      · omega
      ·
        refine Le_sub C _ _ ⟨rfl, ⟨rfl, ⟨rfl, ⟨rfl, ⟨rfl, ⟨rfl, ⟨rfl, ⟨rfl, ⟨rfl, ⟨rfl, ⟨rfl, trivial⟩⟩⟩⟩⟩⟩⟩⟩⟩⟩⟩ ⟨rfl, ⟨rfl, ⟨rfl, trivial⟩⟩⟩ rfl rfl
      ·
        intro j hj
        refine J_seq ?_
        refine J_region ?_
        refine jl rfl rfl (ltn hn rfl) (pure_lss rfl rfl rfl) ?_
        refine JL_nil ?_
        refine J_seq ?_
        refine J_cond_p rfl (fun h2 => ?_) (fun h2 => ?_)
        ·
          refine J_skip ?_
          refine J_seq ?_
          refine J_block ?_
          refine J_seq ?_
          refine J_region ?_
          refine jl rfl rfl (ltn hn rfl) (p_idx_nm rfl rfl rfl rfl (by omega) (by omega)) ?_
          refine jl rfl rfl (ltn hn rfl) (p_ld_nm rfl LdT.out rfl rfl (by omega)) ?_
          refine jl rfl rfl (ltn hn rfl) (pure_assign rfl rfl) ?_
          refine JL_nil ?_
          refine J_seq ?_
          refine J_region ?_
          refine jl rfl rfl (ltn hn rfl) (p_ld_ba rfl rfl rfl (Nat.le_of_ble_eq_true rfl) rfl) ?_
          refine jl rfl rfl (ltn hn rfl) (pure_move rfl rfl) ?_
          refine jl_o rfl (@op_call _ _ _ _ _ _ [.tmp 28, .tmp 29] _ _ _ _ _ (Closed_spec _ _ (by omega) (by omega)) rfl Tryz.func105 rfl rfl rfl (ltn hn rfl) ⟨rfl, rfl, ⟨rfl, rfl, trivial⟩⟩ rfl rfl) ?_
          refine jl_o rfl (@op_call _ _ _ _ _ _ [.tmp 30] _ _ _ _ _ (SetOf_spec _ (by omega)) rfl Tryz.func55 rfl rfl rfl (ltn hn rfl) ⟨rfl, rfl, trivial⟩ rfl rfl) ?_
          refine jl rfl rfl (ltn hn rfl) (p_len_m rfl rfl) ?_
          refine jl rfl rfl (ltn hn rfl) (pure_move rfl rfl) ?_
          refine JL_nil ?_
          refine J_block ?_
          have hsl := setW_len (closedW w (gi cs i))
          have hje := mvA_mem (w := w) (cs := cs) (i := i) (by omega) _ (gi_mem (l := (mvA w (cs.take i))) (i := j) (by omega))
          refine J_loop (X := Nat) (fun q => ⟨[(1, L cs), (2, .box 2 0), (5, .own 800 []), (7, I (gi cs i)), (8, .own 900 []), (10, .own 800 [j]), (16, L cs), (17, I (cs.length : Int)), (18, I (i : Nat)), (22, .own 800 []), (23, I ((mvA w (cs.take i)).length : Int)), (24, I (j : Nat)), (31, L (setW (closedW w (gi cs i)))), (32, I ((setW (closedW w (gi cs i))).length : Int)), (33, I (q : Nat))], [(2, .box 62 [L w]), (800, Nd 37 (lf 3 1 cI) (mvA w (cs.take i))), (900, Nd 37 (lf 3 1 cI) (mvS w ((mvA w (cs.take i)).take j) (gi cs i) ++ ((setW (closedW w (gi cs i))).take q).map (fun x => gi (mvA w (cs.take i)) j ++ [x])))]⟩) (fun q => q ≤ (setW (closedW w (gi cs i))).length) (fun q => (setW (closedW w (gi cs i))).length - q) 0 ?_ ?_ ?_
          · omega
          ·
            refine Le_sub C _ _ ⟨rfl, ⟨rfl, ⟨rfl, ⟨rfl, ⟨rfl, ⟨rfl, ⟨rfl, ⟨rfl, ⟨rfl, ⟨rfl, ⟨rfl, ⟨rfl, ⟨rfl, ⟨rfl, ⟨rfl, trivial⟩⟩⟩⟩⟩⟩⟩⟩⟩⟩⟩⟩⟩⟩⟩ ⟨rfl, ⟨rfl, ⟨(eqv rfl (by simp)), trivial⟩⟩⟩ rfl rfl
          ·
            intro q hq
            refine J_seq ?_
            refine J_region ?_
            refine jl rfl rfl (ltn hn rfl) (pure_lss rfl rfl rfl) ?_
            refine JL_nil ?_
            refine J_seq ?_
            refine J_cond_p rfl (fun h3 => ?_) (fun h3 => ?_)
            ·
              refine J_skip ?_
              refine J_seq ?_
              refine J_block ?_
              refine J_seq ?_
              refine J_region ?_
              refine jl rfl rfl (ltn hn rfl) (p_idx rfl rfl rfl (by omega) (mget (by omega))) ?_
              refine jl rfl rfl (ltn hn rfl) (p_ld rfl rfl rfl) ?_
              refine jl rfl rfl (ltn hn rfl) (pure_assign rfl rfl) ?_
              refine JL_nil ?_
              refine J_region ?_
              refine jl rfl rfl (ltn hn rfl) (pure_move rfl rfl) ?_
              refine jl rfl rfl (ltn hn rfl) (pure_move rfl rfl) ?_
              refine jl_o rfl (op_callE (callsB (Clone_spec _ (by omega)) (enters_fn (args := [.tmp 38]) rfl Tryz.func85 rfl rfl (evA_c rfl evA_n)) (.cons (.own _ _ _ _ _ rfl (get_nm (by omega)) rfl) .nil) rfl ⟨plR (pl_cI _), trivial⟩) rfl (ltn hn rfl) rfl rfl) ?_
              refine jl rfl rfl (ltn hn rfl) (pure_move rfl rfl) ?_
              refine jl_o rfl (@op_lit1 _ _ _ _ _ cI _ _ _ _ _ _ _ SlT.slk rfl rfl (ltn hn rfl) rfl rfl rfl rfl rfl) ?_
              refine jl_o rfl (op_append_m SlT.slk rfl rfl (ltn hn rfl) rfl rfl (src_own_m rfl rfl) (by first | omega | (simp only [List.length_append, List.length_cons, List.length_nil, List.length_take, List.length_drop]; omega)) (by first | omega | (simp only [List.length_append, List.length_cons, List.length_nil, List.length_take, List.length_drop]; omega))) ?_
              refine jl_o rfl (op_lit_node_m (f := lf 3 1 cI) SlT.slk rfl rfl (ltn hn rfl) rfl rfl) ?_
              refine jl_o rfl (op_append_node_m SlT.slk rfl rfl (ltn hn rfl) rfl rfl rfl rfl rfl (by have hpl := mvS_part_len w (gi cs i) (j := j) hml; have hsl := setW_len (closedW w (gi cs i)); simp only [List.length_append, List.length_cons, List.length_nil, List.length_map, List.length_take]; omega) (by have hpl := mvS_part_len w (gi cs i) (j := j) hml; have hsl := setW_len (closedW w (gi cs i)); simp only [List.length_append, List.length_cons, List.length_nil, List.length_map, List.length_take]; omega)) ?_
              refine jl rfl rfl (ltn hn rfl) (pure_assign rfl rfl) ?_
              refine JL_nil ?_
              refine J_region ?_
              refine jl rfl rfl (ltn hn rfl) (pure_add rfl rfl rfl (by omega)) ?_
              refine jl rfl rfl (ltn hn rfl) (pure_move rfl rfl) ?_
              refine JL_nil ?_
              refine ⟨q + 1, ?_, ?_, ?_⟩
              · omega
              · omega
              ·
                refine Le_sub C _ _ ⟨rfl, ⟨rfl, ⟨rfl, ⟨rfl, ⟨rfl, ⟨rfl, ⟨rfl, ⟨rfl, ⟨rfl, ⟨rfl, ⟨rfl, ⟨rfl, ⟨rfl, ⟨rfl, ⟨(eqv rfl (vi (by omega))), trivial⟩⟩⟩⟩⟩⟩⟩⟩⟩⟩⟩⟩⟩⟩⟩ ⟨rfl, ⟨rfl, ⟨(eqv rfl (by rw [take_gi (l := setW (closedW w (gi cs i))) (by omega), List.map_append, List.append_assoc]; rfl)), trivial⟩⟩⟩ rfl rfl
            ·
              refine J_exit ?_
              refine J_region ?_
              refine jl rfl rfl (ltn hn rfl) (pure_add rfl rfl rfl (by omega)) ?_
              refine jl rfl rfl (ltn hn rfl) (pure_move rfl rfl) ?_
              refine JL_nil ?_
              refine ⟨j + 1, ?_, ?_, ?_⟩
              · omega
              · omega
              ·
                refine Le_sub C _ _ ⟨rfl, ⟨rfl, ⟨rfl, ⟨rfl, ⟨rfl, ⟨rfl, ⟨rfl, ⟨rfl, ⟨rfl, ⟨rfl, ⟨(eqv rfl (vi (by omega))), trivial⟩⟩⟩⟩⟩⟩⟩⟩⟩⟩⟩ ⟨rfl, ⟨rfl, ⟨(eqv rfl (by rw [mvS_step (by omega), List.take_of_length_le (i := q) (by omega)])), trivial⟩⟩⟩ rfl rfl
        ·
          refine J_exit ?_
          refine J_region ?_
          refine jl rfl rfl (ltn hn rfl) (pure_move rfl rfl) ?_
          refine jl rfl rfl (ltn hn rfl) (pure_assign rfl rfl) ?_
          refine JL_nil ?_
          refine J_region ?_
          refine jl rfl rfl (ltn hn rfl) (pure_add rfl rfl rfl (by omega)) ?_
          refine jl rfl rfl (ltn hn rfl) (pure_move rfl rfl) ?_
          refine JL_nil ?_
          refine ⟨i + 1, ?_, ?_, ?_⟩
          · omega
          · omega
          ·
            refine Le.trans (Le_frzN C _ 800 rfl) ?_
            refine Le.trans (Le_ren C _ 900 800 rfl rfl (fun _ => hfx _)) ?_
            refine Le_sub C _ _ ⟨rfl, ⟨rfl, ⟨rfl, ⟨rfl, ⟨rfl, ⟨(eqv rfl (vi (by omega))), trivial⟩⟩⟩⟩⟩⟩ ⟨rfl, ⟨(eqv rfl (by rw [mvA_step (by omega), take_all (l := mvA w (cs.take i)) (i := j) (by omega)])), trivial⟩⟩ rfl rfl
    ·
      refine J_exit ?_
      refine J_seq ?_
      refine J_seq ?_
      refine J_region ?_
      refine jl rfl rfl (ltn hn rfl) (pure_move rfl rfl) ?_
      refine jl rfl rfl (ltn hn rfl) (p_len_nm rfl rfl rfl) ?_
      refine jl rfl rfl (ltn hn rfl) (pure_move rfl rfl) ?_
      refine JL_nil ?_
      refine J_block ?_
      have hml := mvA_len3 w (cs := cs) (i := i) (by omega) h3
      have hmm := mvA_mem (w := w) (cs := cs) (i := i) (by omega)
      refine J_loop (X := Nat) (fun m => ⟨[(5, .own 800 []), (49, .own 800 []), (50, I ((mvA w (cs.take i)).length : Int)), (51, I (m : Nat))], [(800, Nd 37 (lf 3 1 cI) (srtM (mvA w (cs.take i)) m))]⟩) (fun m => m ≤ (mvA w (cs.take i)).length) (fun m => (mvA w (cs.take i)).length - m) 0 ?_ ?_ ?_
      · omega
      ·
        refine Le_sub C _ _ ⟨rfl, ⟨rfl, ⟨rfl, ⟨rfl, trivial⟩⟩⟩⟩ ⟨rfl, trivial⟩ rfl rfl
      ·
        intro m hm
        refine J_seq ?_
        refine J_region ?_
        refine jl rfl rfl (ltn hn rfl) (pure_lss rfl rfl rfl) ?_
        refine JL_nil ?_
        refine J_seq ?_
        refine J_cond_p rfl (fun h4 => ?_) (fun h4 => ?_)
        ·
          have hsl := srtM_len (mvA w (cs.take i)) m
          have hsg : (gi (srtM (mvA w (cs.take i)) m) (((m : Int).toNat : Nat) : Int)).length = i := by rw [Int.toNat_natCast, srtM_gi (by omega)]; exact hmm _ (gi_mem (by omega))
          refine J_skip ?_
          refine J_seq ?_
          refine J_block ?_
          refine J_seq ?_
          refine J_region ?_
          refine jl rfl rfl (ltn hn rfl) (p_idx_nm rfl rfl rfl rfl (by omega) (by omega)) ?_
          refine jl rfl rfl (ltn hn rfl) (p_ld_nm rfl LdT.out rfl rfl (by omega)) ?_
          refine jl rfl rfl (ltn hn rfl) (pure_assign rfl rfl) ?_
          refine JL_nil ?_
          refine J_region ?_
          refine jl rfl rfl (ltn hn rfl) (pure_move rfl rfl) ?_
          refine jl_o rfl (op_call_at (Sort_spec _ (by omega)) (enters_fn (args := [.tmp 55]) rfl Tryz.func130 rfl rfl (evA_c rfl evA_n)) (.row .nil) rfl (get_nm (by omega)) (upd_nm (by omega)) rfl (ltn hn rfl)) ?_
          refine JL_nil ?_
          refine J_region ?_
          refine jl rfl rfl (ltn hn rfl) (pure_add rfl rfl rfl (by omega)) ?_
          refine jl rfl rfl (ltn hn rfl) (pure_move rfl rfl) ?_
          refine JL_nil ?_
          refine ⟨m + 1, ?_, ?_, ?_⟩
          · omega
          · omega
          ·
            refine Le_sub C _ _ ⟨rfl, ⟨rfl, ⟨rfl, ⟨(eqv rfl (vi (by omega))), trivial⟩⟩⟩⟩ ⟨(eqv rfl (by rw [Int.toNat_natCast, srtM_step (by omega)])), trivial⟩ rfl rfl
        ·
          have hsl := srtM_len (mvA w (cs.take i)) m
          have hpos := mvA_pos hw h8 hcs (i := i) (by omega)
          have hsb : ∀ x ∈ srtM (mvA w (cs.take i)) m, x.length < 2 ^ 40 := fun x hx => by rw [srtM_mem hmm x hx]; omega
          have hll := sortLL_len (srtM (mvA w (cs.take i)) m)
          have hlb : ∀ x ∈ sortLL (srtM (mvA w (cs.take i)) m), x.length < 2 ^ 40 := fun x hx => hsb x ((sortLL_perm _).mem_iff.1 hx)
          refine J_exit ?_
          refine J_seq ?_
          refine J_region ?_
          refine jl rfl rfl (ltn hn rfl) (pure_move rfl rfl) ?_
          refine JL_le (Le_kids_m C _ 800 860 rfl rfl) ?_
          refine JL_le (Le_ren C _ 860 2000000 rfl rfl (fun _ => hfx _)) ?_
          refine jl_o rfl (op_callM (callsM (SortFunc_spec _ (by omega) (by omega) (by assumption)) (enters_fn (args := [.tmp 58, .func 122]) rfl Tryz.func131 rfl rfl ⟨rfl, ⟨rfl, trivial⟩⟩) rfl ⟨rfl, trivial⟩ rfl) ⟨rfl, trivial⟩ rfl rfl (ltn hn rfl) rfl rfl) ?_
          refine JL_nil ?_
          refine J_seq ?_
          refine J_region ?_
          refine jl rfl rfl (ltn hn rfl) (pure_move rfl rfl) ?_
          refine jl_o rfl (op_callM (callsM (Compact_spec _ (by omega) (by assumption)) (enters_fn (args := [.tmp 60, .func 97]) rfl Tryz.func132 rfl rfl ⟨rfl, ⟨rfl, trivial⟩⟩) rfl ⟨rfl, trivial⟩ rfl) ⟨rfl, trivial⟩ rfl rfl (ltn hn rfl) rfl rfl) ?_
          refine jl rfl rfl (ltn hn rfl) (pure_assign rfl rfl) ?_
          refine JL_nil ?_
          refine J_ret ?_
          exact Fin_one rfl (Le_one rfl (congrArg LL (by rw [srtM_all h4, take_all h1]; rfl)) rfl)
end Go.Proofs.YtmiijpobhajfmaaGreat.J
namespace Go.Proofs.YtmiijpobhajfmaaGreat.J
open Go Go.RowKit
set_option linter.unusedVariables false
set_option linter.unusedSimpArgs false

theorem less_cmp : ∀ {a b : List Int}, a.length = b.length → lessL a b = decide (cmpL a b < 0)
  | [], [], _ => rfl
  | [], _ :: _, h => by simp at h
  | _ :: _, [], h => by simp at h
  | a :: r, b :: t, h => by
    have ih := less_cmp (a := r) (b := t) (by simpa using h)
    simp only [lessL, cmpL, cmpI]
    by_cases e : a = b
    · subst e; simp [ih]
    · by_cases l : a < b
      · simp [e, l]
      · have : b < a := by omega
        simp [e, l, this]
abbrev StrC (l : List (List Int)) : Prop := l.Pairwise (fun a b => cmpL a b < 0)
theorem putLL_nil (x : List Int) : putLL [] x = [x] := by simp [putLL]
theorem putLL_cons (a : List Int) (r : List (List Int)) (x : List Int) : putLL (a :: r) x = if lessL a x = true then a :: putLL r x else if a = x then a :: r else x :: a :: r := by
  unfold putLL
  by_cases h : lessL a x = true
  · simp [h]
  · by_cases e : a = x
    · subst e; simp [h]
    · simp [h, e]
theorem putLL_mem_iff {x y : List Int} : ∀ {l : List (List Int)}, y ∈ putLL l x ↔ y ∈ l ∨ y = x
  | [] => by simp [putLL_nil]
  | a :: r => by
    rw [putLL_cons]
    have ih := putLL_mem_iff (x := x) (y := y) (l := r)
    split
    · simp [ih, or_assoc]
    · split
      · rename_i h; subst h; simp; grind
      · simp; grind
theorem putLL_str {x : List Int} {k : Nat} (hx : x.length = k) : ∀ {l : List (List Int)}, (∀ y ∈ l, y.length = k) → StrC l → StrC (putLL l x)
  | [], _, _ => by simp [putLL_nil]
  | a :: r, hl, h => by
    unfold StrC at h ⊢
    rw [List.pairwise_cons] at h
    have ha := hl a (by simp)
    rw [putLL_cons]
    by_cases c : lessL a x = true
    · rw [if_pos c, List.pairwise_cons]
      rw [less_cmp (by omega), decide_eq_true_eq] at c
      refine ⟨fun y hy => ?_, putLL_str hx (fun y hy => hl y (by simp [hy])) h.2⟩
      rcases putLL_mem_iff.1 hy with h1 | rfl
      · exact h.1 y h1
      · exact c
    · rw [if_neg c]
      by_cases e : a = x
      · rw [if_pos e, List.pairwise_cons]; exact h
      · rw [if_neg e, List.pairwise_cons, List.pairwise_cons]
        rw [less_cmp (by omega), decide_eq_true_eq] at c
        have hxa : cmpL x a < 0 := by
          have h1 := cmpL_neg a x
          have h2 : cmpL a x ≠ 0 := fun h0 => e (cmpL_zero h0)
          omega
        refine ⟨fun y hy => ?_, h⟩
        rcases List.mem_cons.1 hy with rfl | h1
        · exact hxa
        · exact cmpL_trans hxa (h.1 y h1)
theorem fold_putLL_str {k : Nat} : ∀ (l s : List (List Int)), (∀ y ∈ l, y.length = k) → (∀ y ∈ s, y.length = k) → StrC s → StrC (l.foldl putLL s) ∧ ∀ y, y ∈ l.foldl putLL s ↔ y ∈ s ∨ y ∈ l
  | [], s, _, _, h => by simp [h]
  | a :: r, s, hl, hs, h => by
    have ha := hl a (by simp)
    obtain ⟨h1, h2⟩ := fold_putLL_str (k := k) r (putLL s a) (fun y hy => hl y (by simp [hy])) (fun y hy => by
      rcases putLL_mem_iff.1 hy with h3 | rfl
      · exact hs y h3
      · exact ha) (putLL_str ha hs h)
    refine ⟨h1, fun y => ?_⟩
    rw [List.foldl_cons, h2, putLL_mem_iff, List.mem_cons]
    grind
theorem strC_uniq {l m : List (List Int)} (hl : StrC l) (hm : StrC m) (h : ∀ y, y ∈ l ↔ y ∈ m) : l = m := by
  have nd : ∀ {l : List (List Int)}, StrC l → l.Nodup := fun h => List.Pairwise.imp (fun {a b} h e => by rw [e, cmpL_refl] at h; omega) h
  have hp : l.Perm m := (List.perm_ext_iff_of_nodup (nd hl) (nd hm)).2 h
  exact hp.eq_of_pairwise (fun a b _ _ h1 h2 => by have := cmpL_neg a b; omega) hl hm
theorem dd_facts (l : List (List Int)) (h : l.Pairwise (fun a b => cmpL a b ≤ 0)) : StrC (dd l) ∧ ∀ y, y ∈ dd l ↔ y ∈ l := by
  suffices key : ∀ (n : Nat) (l : List (List Int)), l.length = n → l.Pairwise (fun a b => cmpL a b ≤ 0) → StrC (dd l) ∧ ∀ y, y ∈ dd l ↔ y ∈ l from key _ l rfl h
  intro n
  induction n with
  | zero => intro l hl _; rw [List.eq_nil_of_length_eq_zero hl]; simp [dd]
  | succ n ih =>
    intro l hl h
    rcases List.eq_nil_or_concat l with rfl | ⟨v, x, rfl⟩
    · simp at hl
    · rw [List.concat_eq_append] at *
      have hp := List.pairwise_append.1 h
      obtain ⟨h1, h2⟩ := ih v (by simpa using hl) hp.1
      rw [dd_snoc, ddS]
      split
      · rename_i hlast
        refine ⟨h1, fun y => ?_⟩
        have hxv : x ∈ v := (h2 x).1 (List.mem_of_getLast? hlast)
        rw [h2, List.mem_append, List.mem_singleton]
        exact ⟨.inl, fun h => h.elim id (fun e => e ▸ hxv)⟩
      · rename_i hlast
        refine ⟨?_, fun y => by rw [List.mem_append, h2, List.mem_append]⟩
        unfold StrC
        rw [List.pairwise_append]
        refine ⟨h1, by simp, fun y hy z hz => ?_⟩
        obtain rfl : z = x := by simpa using hz
        have hle := hp.2.2 y ((h2 y).1 hy) z (by simp)
        rcases Int.lt_or_eq_of_le hle with h0 | h0
        · exact h0
        · exfalso
          have hyz := cmpL_zero h0
          subst hyz
          obtain ⟨a, b, hab⟩ := List.append_of_mem hy
          rcases List.eq_nil_or_concat b with rfl | ⟨b', t, rfl⟩
          · exact hlast (by rw [hab]; simp)
          · rw [List.concat_eq_append] at hab
            rw [hab] at h1
            have h3 := (List.pairwise_append.1 h1).2.1
            rw [List.pairwise_cons] at h3
            have h4 := h3.1 t (by simp)
            have h5 := hp.2.2 t ((h2 t).1 (by rw [hab]; simp)) y (by simp)
            have := cmpL_neg y t
            omega

/-! ### The neighbors as numbers -/
def netI (n : Nat) (es : List (Int × Int)) (w : List Int) : Prop := w.length = n ∧ ∀ a : Nat, a < n → msk (gi w (a : Int)) ∧ ∀ b : Nat, b < 8 → bitT (gi w (a : Int)) (b : Int) = nearG es a b
theorem setOr_gi {w : List Int} {a : Nat} {b : Int} (ha : a < w.length) (x : Nat) : gi (setOr w (a : Int) b) (x : Int) = if a = x then Go.bits .or .i64 (gi w (a : Int)) (bit1 b) else gi w (x : Int) := by
  unfold setOr
  rw [Int.toNat_natCast, gi_setG ha]
theorem netI_step {n : Nat} (hn : n ≤ 8) {es : List (Int × Int)} {w : List Int} (h : netI n es w) {e : Int × Int} (he : 0 ≤ e.1 ∧ e.1 < n ∧ 0 ≤ e.2 ∧ e.2 < n) : netI n (es ++ [e]) (netStep w e) := by
  obtain ⟨e1, e2⟩ := e
  obtain ⟨p, rfl⟩ : ∃ p : Nat, e1 = p := ⟨e1.toNat, by have := he.1; simp only [] at this; omega⟩
  obtain ⟨q, rfl⟩ : ∃ q : Nat, e2 = q := ⟨e2.toNat, by have := he.2.2.1; simp only [] at this; omega⟩
  simp only [] at he
  obtain ⟨h1, h2⟩ := h
  unfold netStep
  simp only []
  have hl := setOr_len w (p : Int) (q : Int)
  refine ⟨by rw [setOr_len, hl, h1], fun a ha => ?_⟩
  have hpp := msk_one (x := p) (by omega)
  have hqq := msk_one (x := q) (by omega)
  have key : ∀ x : Nat, x < n → msk (gi (setOr w (p : Int) (q : Int)) (x : Int)) ∧ ∀ b : Nat, b < 8 → bitT (gi (setOr w (p : Int) (q : Int)) (x : Int)) (b : Int) = (nearG es x b || (decide (p = x) && decide (q = b))) := by
    intro x hx
    rw [setOr_gi (by omega)]
    by_cases c : p = x
    · subst c
      rw [if_pos rfl]
      have h3 := msk_or (h2 p hx).1 hqq.1
      exact ⟨h3.1, fun b hb => by rw [h3.2 b hb, (h2 p hx).2 b hb, hqq.2 b hb]; simp⟩
    · rw [if_neg c]
      exact ⟨(h2 x hx).1, fun b hb => by rw [(h2 x hx).2 b hb]; simp [c]⟩
  have hnear : ∀ b : Nat, nearG (es ++ [((p : Int), (q : Int))]) (a : Int) (b : Int) = (nearG es a b || (decide (p = a) && decide (q = b) || decide (q = a) && decide (p = b))) := by
    intro b
    simp only [nearG, List.any_append, List.any_cons, List.any_nil, Bool.or_false, nearE]
    congr 1
    simp only [Int.natCast_inj]
    cases decide (p = a) <;> cases decide (q = b) <;> cases decide (p = b) <;> cases decide (q = a) <;> rfl
  rw [setOr_gi (by omega)]
  by_cases c : q = a
  · subst c
    rw [if_pos rfl]
    have h3 := msk_or (key q ha).1 hpp.1
    exact ⟨h3.1, fun b hb => by rw [h3.2 b hb, (key q ha).2 b hb, hpp.2 b hb, hnear b]; simp [Bool.or_assoc]⟩
  · rw [if_neg c]
    exact ⟨(key a ha).1, fun b hb => by rw [(key a ha).2 b hb, hnear b]; simp [c]⟩
theorem netI_fold {n : Nat} (hn : n ≤ 8) : ∀ (es pre : List (Int × Int)) (w : List Int), (∀ e ∈ es, 0 ≤ e.1 ∧ e.1 < n ∧ 0 ≤ e.2 ∧ e.2 < n) → netI n pre w → netI n (pre ++ es) (es.foldl netStep w)
  | [], pre, w, _, h => by simpa using h
  | e :: r, pre, w, he, h => by
    have := netI_fold hn r (pre ++ [e]) (netStep w e) (fun x hx => he x (by simp [hx])) (netI_step hn h (he e (by simp)))
    simpa using this
theorem net_ok {n : Nat} {es : List (Int × Int)} (hG : goodG (n : Int) es = true) : netI n es (netW n es) := by
  have hn : n ≤ 8 := by
    simp only [goodG, Bool.and_eq_true, decide_eq_true_eq] at hG
    omega
  have h := netI_fold hn es [] (List.replicate n 0) (fun e he => by
    obtain ⟨j, hj, rfl⟩ := mem_gi he
    have := good_edge hG (i := j) (by omega)
    omega) ⟨by simp, fun a ha => by
      have e : gi (List.replicate n (0 : Int)) (a : Int) = 0 := by rw [gi_natG (by simpa using ha)]; simp
      rw [e]
      exact ⟨msk_zero.1, fun b hb => by rw [msk_zero.2 b hb]; rfl⟩⟩
  simpa [netW] using h
theorem closed_bits {n : Nat} (hn : n ≤ 8) {es : List (Int × Int)} {w : List Int} (h : netI n es w) {a : Nat} (ha : a < n) : msk (closedW w (a : Int)) ∧ ∀ b : Nat, b < 8 → bitT (closedW w (a : Int)) (b : Int) = (nearG es a b || decide (a = b)) := by
  have h1 := msk_one (x := a) (by omega)
  have h2 := msk_or (h.2 a ha).1 h1.1
  exact ⟨h2.1, fun b hb => by show bitT (Go.bits .or .i64 (gi w (a : Int)) (bit1 (a : Int))) (b : Int) = _; rw [h2.2 b hb, (h.2 a ha).2 b hb, h1.2 b hb]⟩
theorem near_lt {n : Nat} {es : List (Int × Int)} (hG : goodG (n : Int) es = true) {a b : Int} (h : nearG es a b = true) : 0 ≤ b ∧ b < n := by
  simp only [nearG, List.any_eq_true] at h
  obtain ⟨e, he, h⟩ := h
  obtain ⟨j, hj, rfl⟩ := mem_gi he
  have := good_edge hG (i := j) (by omega)
  simp only [nearE, Bool.or_eq_true, Bool.and_eq_true, decide_eq_true_eq] at h
  omega
theorem incr_uniq {l m : List Int} (hl : l.Pairwise (· < ·)) (hm : m.Pairwise (· < ·)) (h : ∀ y, y ∈ l ↔ y ∈ m) : l = m := by
  have nd : ∀ {l : List Int}, l.Pairwise (· < ·) → l.Nodup := fun h => List.Pairwise.imp (fun {a b} h e => by omega) h
  have hp : l.Perm m := (List.perm_ext_iff_of_nodup (nd hl) (nd hm)).2 h
  exact hp.eq_of_pairwise (fun a b _ _ h1 h2 => by omega) hl hm
theorem setW_mem {m : Int} {y : Int} : y ∈ setW m ↔ (0 ≤ y ∧ y < 8) ∧ bitT m y = true := by
  unfold setW
  rw [List.mem_filter, ints_mem]; rfl
theorem setW_incr (m : Int) : (setW m).Pairwise (· < ·) := (okU_ints 8).1.filter _
theorem set_ball {n : Nat} {es : List (Int × Int)} (hG : goodG (n : Int) es = true) {a : Int} (ha : 0 ≤ a ∧ a < n) : setW (closedW (netW n es) a) = ballG n es a := by
  have hn : n ≤ 8 := by
    simp only [goodG, Bool.and_eq_true, decide_eq_true_eq] at hG
    omega
  obtain ⟨a, rfl⟩ : ∃ k : Nat, a = k := ⟨a.toNat, by omega⟩
  refine incr_uniq (setW_incr _) (okU_ball ha).1 (fun y => ?_)
  rw [setW_mem, mem_ball ha]
  have hb := (closed_bits hn (net_ok hG) (a := a) (by omega)).2
  constructor
  · rintro ⟨h1, h2⟩
    obtain ⟨y, rfl⟩ : ∃ k : Nat, y = k := ⟨y.toNat, by omega⟩
    rw [hb y (by omega), Bool.or_eq_true, decide_eq_true_eq] at h2
    rcases h2 with h2 | rfl
    · exact ⟨near_lt hG h2, .inl h2⟩
    · exact ⟨ha, .inr rfl⟩
  · rintro ⟨h1, h2⟩
    obtain ⟨y, rfl⟩ : ∃ k : Nat, y = k := ⟨y.toNat, by omega⟩
    refine ⟨by omega, ?_⟩
    rw [hb y (by omega), Bool.or_eq_true, decide_eq_true_eq]
    rcases h2 with h2 | h2
    · exact .inl h2
    · exact .inr (by omega)
theorem mvA_prod {n : Nat} {es : List (Int × Int)} (hG : goodG (n : Int) es = true) : ∀ (cs : List Int), (∀ c ∈ cs, 0 ≤ c ∧ c < n) → ∀ s, cs.foldl (mvS (netW n es)) s = cs.foldl (stepM n es) s
  | [], _, _ => rfl
  | c :: r, h, s => by
    rw [List.foldl_cons, List.foldl_cons, mvA_prod hG r (fun x hx => h x (by simp [hx]))]
    congr 1
    simp only [mvS, stepM]
    rw [set_ball hG (h c (by simp))]
/-- The moves that impl makes are the moves of the reference. -/
theorem mvW_moves {n : Nat} {es : List (Int × Int)} (hG : goodG (n : Int) es = true) {cs : List Int} (hc : ∀ c ∈ cs, 0 ≤ c ∧ c < n) (h3 : cs.length ≤ 3) : mvW (netW n es) cs = movesL n es cs := by
  have e : mvA (netW n es) cs = prodL n es cs := mvA_prod hG cs hc [[]]
  have hlen : ∀ y ∈ (prodL n es cs).map sortL, y.length = cs.length := by
    intro y hy
    obtain ⟨z, hz, rfl⟩ := List.mem_map.1 hy
    rw [sortL_len]
    have := mvA_mem (w := netW n es) (cs := cs) (i := cs.length) (Nat.le_refl _)
    rw [List.take_length, e] at this
    exact this z hz
  obtain ⟨h1, h2⟩ := dd_facts (sortLL ((prodL n es cs).map sortL)) (sortLL_sorted _)
  obtain ⟨h4, h5⟩ := fold_putLL_str ((prodL n es cs).map sortL) [] hlen (fun y hy => by cases hy) List.Pairwise.nil
  unfold mvW movesL
  rw [e]
  refine strC_uniq h1 h4 (fun y => ?_)
  rw [h2, h5, (sortLL_perm _).mem_iff]
  simp
/-! ### The lists of the cops are in order -/
theorem cmpL_snoc : ∀ {a b : List Int} (x y : Int), a.length = b.length → cmpL (a ++ [x]) (b ++ [y]) = if cmpL a b = 0 then cmpI x y else cmpL a b
  | [], [], x, y, _ => by simp only [List.nil_append, cmpL]; split <;> simp_all
  | [], _ :: _, _, _, h => by simp at h
  | _ :: _, [], _, _, h => by simp at h
  | a :: r, b :: t, x, y, h => by
    have ih := cmpL_snoc (a := r) (b := t) x y (by simpa using h)
    simp only [List.cons_append, cmpL, ih]
    by_cases c : cmpI a b = 0 <;> simp [c]
theorem strC_flat {n i : Nat} : ∀ (l : List (List Int)), (∀ y ∈ l, y.length = i) → StrC l → StrC (l.flatMap (extL n i))
  | [], _, _ => List.Pairwise.nil
  | a :: r, hl, h => by
    unfold StrC at h ⊢
    rw [List.pairwise_cons] at h
    rw [List.flatMap_cons, List.pairwise_append]
    refine ⟨?_, strC_flat r (fun y hy => hl y (by simp [hy])) h.2, fun y hy z hz => ?_⟩
    · unfold extL
      rw [List.pairwise_map]
      have hsp : (span (start i a) n).Pairwise (· < ·) := by
        unfold span
        rw [List.pairwise_map]
        exact (List.pairwise_lt_range (n := n - (start i a).toNat)).imp (fun h => by omega)
      refine hsp.imp (fun {x y} hxy => ?_)
      rw [cmpL_snoc x y rfl, if_pos (cmpL_refl a)]
      unfold cmpI; rw [if_pos hxy]; decide
    · obtain ⟨x, _, rfl⟩ := List.mem_map.1 hy
      obtain ⟨b, hb, hz⟩ := List.mem_flatMap.1 hz
      obtain ⟨y, _, rfl⟩ := List.mem_map.1 hz
      have h1 := h.1 b hb
      rw [cmpL_snoc x y (by rw [hl a (by simp), hl b (by simp [hb])]), if_neg (by omega)]
      exact h1
theorem cfg_str (n : Nat) : ∀ k, StrC (cfgL n k)
  | 0 => by simp [cfgL, StrC]
  | k + 1 => by
    rw [cfgL]
    exact strC_flat _ (fun y hy => (cfg_mem n k y hy).1) (cfg_str n k)
theorem str_gi {l : List (List Int)} (h : StrC l) {i j : Nat} (hi : i < l.length) (hj : j < l.length) : cmpL (gi l (i : Int)) (gi l (j : Int)) < 0 ↔ i < j := by
  rw [gi_natG hi, gi_natG hj]
  have h1 := List.pairwise_iff_getElem.1 h
  constructor
  · intro hc
    rcases Nat.lt_trichotomy i j with h2 | h2 | h2
    · exact h2
    · subst h2; rw [cmpL_refl] at hc; omega
    · have := h1 j i hj hi h2
      have := cmpL_neg l[i] l[j]
      omega
  · intro hij; exact h1 i j hi hj hij
end Go.Proofs.YtmiijpobhajfmaaGreat.J
namespace Go.Proofs.YtmiijpobhajfmaaGreat.J
open Go Go.RowKit
set_option maxRecDepth 20000
set_option linter.unusedVariables false
set_option linter.unusedSimpArgs false

theorem place_c {ls : List (List Int)} {t : List Int} (hs : StrC ls) (ht : t ∈ ls) : ∃ c : Nat, atL ls t = c ∧ c < ls.length ∧ ∀ h : Nat, h < ls.length → (cmpL (gi ls (h : Int)) t < 0 ↔ h < c) := by
  obtain ⟨h0, h1, h2⟩ := at_mem ht
  refine ⟨(atL ls t).toNat, by omega, by omega, fun h hh => ?_⟩
  have := str_gi hs hh (j := (atL ls t).toNat) (by omega)
  rw [show (((atL ls t).toNat : Nat) : Int) = atL ls t by omega, h2] at this
  exact this
theorem netW_bd {n : Nat} {es : List (Int × Int)} (hG : goodG (n : Int) es = true) : ∀ x ∈ netW n es, 0 ≤ x ∧ x < 256 := by
  intro x hx
  obtain ⟨j, hj, rfl⟩ := mem_gi hx
  have h := net_ok hG
  exact (h.2 j (by rw [← h.1]; exact hj)).1
theorem good_n {n : Nat} {es : List (Int × Int)} (hG : goodG (n : Int) es = true) : n ≤ 8 := by
  simp only [goodG, Bool.and_eq_true, decide_eq_true_eq] at hG
  omega
theorem CopMovesG_spec (n : Nat) (es : List (Int × Int)) (cs : List Int) (hG : goodG (n : Int) es = true) (h3 : cs.length ≤ 3) (hc : ∀ x ∈ cs, 0 ≤ x ∧ x < n) : Spec Tryz.prog 95 [Net (netW n es), L cs] (LL (movesL n es cs)) [] := by
  have hl := netW_len n es
  have hn := good_n hG
  rw [← mvW_moves hG hc h3]
  exact CopMoves_spec (netW n es) cs (by omega) (netW_bd hG) h3 (by rw [hl]; exact hc)
theorem SizeN_spec (n : Nat) (es : List (Int × Int)) : Spec Tryz.prog 114 [Net (netW n es)] (I (n : Int)) [] := by
  have h := Size_spec (netW n es)
  rwa [netW_len] at h

theorem Place_spec (w : List Int) (ls : List (List Int)) (mv tm : AV) (t : List Int) (hl : ls.length < 2^30) (hb : ∀ x ∈ ls, x.length < 2^40) (hs : StrC ls) (ht : t ∈ ls) : Spec Tryz.prog 76 [.ref [L w, LL ls, mv, tm], L t] (I (atL ls t)) [] := by
  refine Spec.intro (c := _) Tryz.func76 rfl (Nat.le_of_ble_eq_true rfl) (fun C hC hfx => ?_)
  have hn : C.n = 17 := hC
  refine (show J _ _ _ _ (⟨[(0, .ref [L w, LL ls, mv, tm]), (1, L t)], []⟩ : AS) from ?_)
  obtain ⟨c, hc0, hc1, hc2⟩ := place_c hs ht
  refine J_seq ?_
  refine J_region ?_
  refine jl rfl rfl (ltn hn rfl) (pure_assign rfl rfl) ?_
  refine JL_nil ?_
  refine J_seq ?_
  refine J_region ?_
  refine jl rfl rfl (ltn hn rfl) (pure_move rfl rfl) ?_
  refine jl rfl rfl (ltn hn rfl) (pure_nilCheck_ref rfl rfl) ?_
  refine jl rfl rfl (ltn hn rfl) (p_fld rfl rfl) ?_
  refine jl rfl rfl (ltn hn rfl) (p_ld rfl rfl rfl) ?_
  refine jl rfl rfl (ltn hn rfl) (pure_move rfl rfl) ?_
  refine jl_o rfl (@op_call _ _ _ _ _ _ [.tmp 11, .tmp 12, .func 122] _ _ _ _ _ (Bin_spec ls t c (by omega) hl hb (hb t ht) hc2) rfl Tryz.func121 rfl rfl rfl (ltn hn rfl) ⟨rfl, rfl, ⟨rfl, rfl, ⟨rfl, rfl, trivial⟩⟩⟩ rfl rfl) ?_
  refine jl rfl rfl (ltn hn rfl) (pure_move rfl rfl) ?_
  refine jl rfl rfl (ltn hn rfl) (p_extract rfl rfl rfl) ?_
  refine jl rfl rfl (ltn hn rfl) (p_extract rfl rfl rfl) ?_
  refine jl rfl rfl (ltn hn rfl) (pure_assign rfl rfl) ?_
  refine jl rfl rfl (ltn hn rfl) (pure_assign rfl rfl) ?_
  refine JL_nil ?_
  refine J_seq ?_
  refine J_region ?_
  refine jl rfl rfl (ltn hn rfl) (pure_move rfl rfl) ?_
  refine jl rfl rfl (ltn hn rfl) (pure_assign rfl rfl) ?_
  refine JL_nil ?_
  refine J_ret ?_
  exact Fin_one rfl (Le_one rfl (vi (by omega)) rfl)
theorem CopBoard_spec (n k : Nat) (es : List (Int × Int)) (hG : goodG (n : Int) es = true) (hk : k ≤ 3) : Spec Tryz.prog 108 [Net (netW n es), I (k : Int)] (.box 17 0) [(17, .box 77 [L (netW n es), LL (cfgL n k), LL ((cfgL n k).map (mvL n es (cfgL n k))), Nil])] := by
  refine Spec.intro (c := _) Tryz.func108 rfl (Nat.le_of_ble_eq_true rfl) (fun C hC hfx => ?_)
  have hn : C.n = 54 := hC
  refine (show J _ _ _ _ (⟨[(0, Net (netW n es)), (1, I (k : Int))], []⟩ : AS) from ?_)
  have hn8 := good_n hG
  have hwl := netW_len n es
  have hcl := cfg_len3 hn8 hk
  have hcm := cfg_mem n k
  refine J_seq ?_
  refine J_region ?_
  refine jl_o rfl (op_box_agg rfl rfl (ltn hn rfl) rfl rfl rfl) ?_
  refine jl rfl rfl (ltn hn rfl) (pure_assign rfl rfl) ?_
  refine JL_nil ?_
  refine J_seq ?_
  refine J_mixed [13, 15, 17] follows_mixed (by kernel_rfl) ?_
  refine JD1_read 0 rfl (by kernel_rfl) (by kernel_rfl) (by kernel_rfl) rfl rfl (ltn hn rfl) (p_ld_ba rfl rfl rfl (Nat.le_of_ble_eq_true rfl) rfl) rfl ?_
  refine JD1_read 1 rfl (by kernel_rfl) (by kernel_rfl) (by kernel_rfl) rfl rfl (ltn hn rfl) (p_ld_ba rfl rfl rfl (Nat.le_of_ble_eq_true rfl) rfl) rfl ?_
  refine JD1_read 3 rfl (by kernel_rfl) (by kernel_rfl) (by kernel_rfl) rfl rfl (ltn hn rfl) (pure_move rfl rfl) rfl ?_
  refine JD1_go ?_
  refine JD_only 2 rfl (by kernel_rfl) rfl (@op_call _ _ _ _ _ _ [.tmp 12] _ _ _ _ _ (SizeN_spec n es) rfl Tryz.func114 rfl rfl rfl (ltn hn rfl) ⟨rfl, rfl, trivial⟩ rfl rfl) rfl ?_
  refine JD_only 4 rfl (by kernel_rfl) rfl (@op_call _ _ _ _ _ _ [.tmp 13, .tmp 14] _ _ _ _ _ (Lists_spec _ _ (by omega) (by omega)) rfl Tryz.func134 rfl rfl rfl (ltn hn rfl) ⟨rfl, rfl, ⟨rfl, rfl, trivial⟩⟩ rfl rfl) rfl ?_
  refine JD_still 5 rfl (by kernel_rfl) (by kernel_rfl) (by kernel_rfl) rfl rfl (ltn hn rfl) (pure_build (l := [(0, .tmp 11), (1, .tmp 15)]) rfl BdT.out (.agg rfl rfl (.one rfl rfl .nil)) rfl) ?_
  refine JD_only 6 rfl (by kernel_rfl) rfl (op_box_agg rfl rfl (ltn hn rfl) rfl rfl rfl) rfl ?_
  refine JD_still 7 rfl (by kernel_rfl) (by kernel_rfl) (by kernel_rfl) rfl rfl (ltn hn rfl) (pure_assign rfl rfl) ?_
  refine JD_done (by kernel_rfl) ?_
  refine J_seq ?_
  refine J_seq ?_
  refine J_region ?_
  refine jl rfl rfl (ltn hn rfl) (pure_move rfl rfl) ?_
  refine jl rfl rfl (ltn hn rfl) (pure_nilCheck_box rfl rfl) ?_
  refine jl rfl rfl (ltn hn rfl) (p_fld_b rfl rfl rfl) ?_
  refine jl rfl rfl (ltn hn rfl) (p_ld_b rfl rfl rfl rfl) ?_
  refine jl rfl rfl (ltn hn rfl) (p_len_m rfl rfl) ?_
  refine jl rfl rfl (ltn hn rfl) (pure_move rfl rfl) ?_
  refine JL_nil ?_
  refine J_block ?_
  refine J_le (Le_adoptB C _ 17 2 8 _ _ 37 1 rfl rfl rfl) ?_
  refine J_loop (X := Nat) (fun i => ⟨[(2, .box 2 0), (5, .box 17 0), (21, LL (cfgL n k)), (22, I ((cfgL n k).length : Int)), (23, I (i : Nat))], [(2, .box 62 [L (netW n es)]), (17, .box 77 [L (netW n es), LL (cfgL n k), .own 8 [], Nil]), (8, Ow 37 1 cL (((cfgL n k).take i).map (mvL n es (cfgL n k))))]⟩) (fun i => i ≤ (cfgL n k).length) (fun i => (cfgL n k).length - i) 0 ?_ ?_ ?_
  · omega
  ·
    refine Le_sub C _ _ ⟨rfl, ⟨rfl, ⟨rfl, ⟨rfl, ⟨rfl, trivial⟩⟩⟩⟩⟩ ⟨rfl, ⟨rfl, ⟨rfl, trivial⟩⟩⟩ rfl rfl
  ·
    intro i hi
    refine J_seq ?_
    refine J_region ?_
    refine jl rfl rfl (ltn hn rfl) (pure_lss rfl rfl rfl) ?_
    refine JL_nil ?_
    refine J_seq ?_
    refine J_cond_p rfl (fun h1 => ?_) (fun h1 => ?_)
    ·
      have hci := gi_mem (l := (cfgL n k)) (i := i) (by omega)
      have hcc := hcm _ hci
      have hml := (movesL_facts hn8 es (cs := gi (cfgL n k) i) (by omega)).1
      have hce : ∀ x ∈ (cfgL n k), x.length < 2 ^ 40 := fun x hx => by have := (hcm x hx).1; omega
      refine J_skip ?_
      refine J_seq ?_
      refine J_block ?_
      refine J_seq ?_
      refine J_region ?_
      refine jl rfl rfl (ltn hn rfl) (p_idx rfl rfl rfl (by omega) (mget (by omega))) ?_
      refine jl rfl rfl (ltn hn rfl) (p_ld rfl rfl rfl) ?_
      refine jl rfl rfl (ltn hn rfl) (pure_assign rfl rfl) ?_
      refine JL_nil ?_
      refine J_seq ?_
      refine J_region ?_
      refine jl rfl rfl (ltn hn rfl) (pure_assign rfl rfl) ?_
      refine JL_nil ?_
      refine J_seq ?_
      refine J_seq ?_
      refine J_le (Le_adopt C _ 8 900 (.leaf 3 1 []) rfl rfl (.inl ⟨_, _, rfl⟩)) ?_
      refine J_region ?_
      refine jl rfl rfl (ltn hn rfl) (p_ld_ba rfl rfl rfl (Nat.le_of_ble_eq_true rfl) rfl) ?_
      refine jl rfl rfl (ltn hn rfl) (pure_move rfl rfl) ?_
      refine jl_o rfl (@op_call _ _ _ _ _ _ [.tmp 27, .tmp 28] _ _ _ _ _ (CopMovesG_spec n es (gi (cfgL n k) i) hG (by omega) hcc.2) rfl Tryz.func95 rfl rfl rfl (ltn hn rfl) ⟨rfl, rfl, ⟨rfl, rfl, trivial⟩⟩ rfl rfl) ?_
      refine jl rfl rfl (ltn hn rfl) (p_len_m rfl rfl) ?_
      refine jl rfl rfl (ltn hn rfl) (pure_move rfl rfl) ?_
      refine JL_nil ?_
      refine J_block ?_
      refine J_loop (X := Nat) (fun j => ⟨[(2, .box 2 0), (5, .box 17 0), (7, L (gi (cfgL n k) i)), (8, .own 900 []), (21, LL (cfgL n k)), (22, I ((cfgL n k).length : Int)), (23, I (i : Nat)), (29, LL (movesL n es (gi (cfgL n k) i))), (30, I ((movesL n es (gi (cfgL n k) i)).length : Int)), (31, I (j : Nat))], [(2, .box 62 [L (netW n es)]), (17, .box 77 [L (netW n es), LL (cfgL n k), .own 8 [], Nil]), (8, Ow 37 1 cL (((cfgL n k).take i).map (mvL n es (cfgL n k)))), (900, Ow 3 1 cI (((movesL n es (gi (cfgL n k) i)).take j).map (atL (cfgL n k))))]⟩) (fun j => j ≤ (movesL n es (gi (cfgL n k) i)).length) (fun j => (movesL n es (gi (cfgL n k) i)).length - j) 0 ?_ ?_ ?_
      · omega
      ·
        refine Le_sub C _ _ ⟨rfl, ⟨rfl, ⟨rfl, ⟨rfl, ⟨rfl, ⟨rfl, ⟨rfl, ⟨rfl, ⟨rfl, ⟨rfl, trivial⟩⟩⟩⟩⟩⟩⟩⟩⟩⟩ ⟨rfl, ⟨rfl, ⟨rfl, ⟨rfl, trivial⟩⟩⟩⟩ rfl rfl
      ·
        intro j hj
        refine J_seq ?_
        refine J_region ?_
        refine jl rfl rfl (ltn hn rfl) (pure_lss rfl rfl rfl) ?_
        refine JL_nil ?_
        refine J_seq ?_
        refine J_cond_p rfl (fun h2 => ?_) (fun h2 => ?_)
        ·
          refine J_skip ?_
          refine J_seq ?_
          refine J_block ?_
          refine J_seq ?_
          refine J_region ?_
          refine jl rfl rfl (ltn hn rfl) (p_idx rfl rfl rfl (by omega) (mget (by omega))) ?_
          refine jl rfl rfl (ltn hn rfl) (p_ld rfl rfl rfl) ?_
          refine jl rfl rfl (ltn hn rfl) (pure_assign rfl rfl) ?_
          refine JL_nil ?_
          refine J_region ?_
          refine jl rfl rfl (ltn hn rfl) (pure_move rfl rfl) ?_
          refine jl rfl rfl (ltn hn rfl) (pure_move rfl rfl) ?_
          refine jl rfl rfl (ltn hn rfl) (pure_move rfl rfl) ?_
          refine jl_o rfl (op_callE (callsB (Place_spec _ _ _ _ _ (by omega) hce (cfg_str n k) (moves_cfg hn8 hk hci _ (gi_mem (by omega)))) (enters_fn (args := [.tmp 36, .tmp 37]) rfl Tryz.func76 rfl rfl (evA_c rfl (evA_c rfl evA_n))) (.cons (view_box rfl (.cons (.ro _ rfl) (.cons (.ro _ rfl) (.cons (.own _ _ _ _ _ rfl rfl rfl) (.cons (.nil 1) .nil)))) rfl) (.cons (.ro _ rfl) .nil)) rfl trivial) rfl (ltn hn rfl) rfl rfl) ?_
          refine jl_o rfl (@op_lit1 _ _ _ _ _ cI _ _ _ _ _ _ _ SlT.slk rfl rfl (ltn hn rfl) rfl rfl rfl rfl rfl) ?_
          refine jl_o rfl (op_append_m SlT.slk rfl rfl (ltn hn rfl) rfl rfl (src_own_m rfl rfl) (by first | omega | (simp only [List.length_append, List.length_cons, List.length_nil, List.length_take, List.length_drop, List.length_map]; omega)) (by first | omega | (simp only [List.length_append, List.length_cons, List.length_nil, List.length_take, List.length_drop, List.length_map]; omega))) ?_
          refine jl rfl rfl (ltn hn rfl) (pure_assign rfl rfl) ?_
          refine JL_nil ?_
          refine J_region ?_
          refine jl rfl rfl (ltn hn rfl) (pure_add rfl rfl rfl (by omega)) ?_
          refine jl rfl rfl (ltn hn rfl) (pure_move rfl rfl) ?_
          refine JL_nil ?_
          refine ⟨j + 1, ?_, ?_, ?_⟩
          · omega
          · omega
          ·
            refine Le_sub C _ _ ⟨rfl, ⟨rfl, ⟨rfl, ⟨rfl, ⟨rfl, ⟨rfl, ⟨rfl, ⟨rfl, ⟨rfl, ⟨(eqv rfl (vi (by omega))), trivial⟩⟩⟩⟩⟩⟩⟩⟩⟩⟩ ⟨rfl, ⟨rfl, ⟨rfl, ⟨(eqv rfl (by rw [take_gi (l := (movesL n es (gi (cfgL n k) i))) (i := j) (by omega), List.map_append]; rfl)), trivial⟩⟩⟩⟩ rfl rfl
        ·
          refine J_exit ?_
          refine J_region ?_
          refine jl rfl rfl (ltn hn rfl) (pure_move rfl rfl) ?_
          refine jl rfl rfl (ltn hn rfl) (pure_move rfl rfl) ?_
          refine jl rfl rfl (ltn hn rfl) (pure_nilCheck_box rfl rfl) ?_
          refine jl rfl rfl (ltn hn rfl) (p_fld_b rfl rfl rfl) ?_
          refine jl rfl rfl (ltn hn rfl) (p_ld_b rfl rfl rfl rfl) ?_
          refine jl rfl rfl (ltn hn rfl) (pure_move rfl rfl) ?_
          refine JL_le (Le_frz 900 rfl rfl) ?_
          refine jl_o rfl (@op_lit1 _ _ _ _ _ cL _ _ _ _ _ _ _ SlT.slk rfl rfl (ltn hn rfl) rfl rfl rfl rfl rfl) ?_
          refine jl_o rfl (op_append_m SlT.slk rfl rfl (ltn hn rfl) rfl rfl (src_own_m rfl rfl) (by first | omega | (simp only [List.length_append, List.length_cons, List.length_nil, List.length_take, List.length_drop, List.length_map]; omega)) (by first | omega | (simp only [List.length_append, List.length_cons, List.length_nil, List.length_take, List.length_drop, List.length_map]; omega))) ?_
          refine jl rfl rfl (ltn hn rfl) (pure_nilCheck_box rfl rfl) ?_
          refine jl rfl rfl (ltn hn rfl) (p_fld_b rfl rfl rfl) ?_
          refine jl_o rfl (op_store_box rfl rfl SzT.out rfl rfl (by exact Nat.le_of_ble_eq_true rfl) rfl rfl) ?_
          refine JL_nil ?_
          refine J_region ?_
          refine jl rfl rfl (ltn hn rfl) (pure_add rfl rfl rfl (by omega)) ?_
          refine jl rfl rfl (ltn hn rfl) (pure_move rfl rfl) ?_
          refine JL_nil ?_
          refine ⟨i + 1, ?_, ?_, ?_⟩
          · omega
          · omega
          ·
            refine Le_sub C _ _ ⟨rfl, ⟨rfl, ⟨rfl, ⟨rfl, ⟨(eqv rfl (vi (by omega))), trivial⟩⟩⟩⟩⟩ ⟨rfl, ⟨rfl, ⟨(eqv rfl (by rw [take_all (l := (movesL n es (gi (cfgL n k) i))) (i := j) (by omega), take_gi (l := (cfgL n k)) (i := i) (by omega), List.map_append]; rfl)), trivial⟩⟩⟩ rfl rfl
    ·
      refine J_exit ?_
      refine J_seq ?_
      refine J_region ?_
      refine jl rfl rfl (ltn hn rfl) (pure_move rfl rfl) ?_
      refine jl rfl rfl (ltn hn rfl) (pure_assign rfl rfl) ?_
      refine JL_nil ?_
      refine J_ret ?_
      exact Fin_one rfl (Le.trans (Le_frz 8 rfl rfl) (Le_sub C _ _ ⟨rfl, trivial⟩ ⟨(eqv rfl (by rw [take_all (l := cfgL n k) (i := i) h1]; rfl)), trivial⟩ rfl rfl))
end Go.Proofs.YtmiijpobhajfmaaGreat.J
