/- Parts of a small logic over the program, and walks in it. No statement of the seat is proved in this text. -/
import Derived.Test.YtmiijpobhajfmaaGreatMJ
namespace Go.Proofs.YtmiijpobhajfmaaGreat.J
open Go Go.RowKit
set_option linter.unusedVariables false
set_option linter.unusedSimpArgs false

/-! ### Sets as numbers -/
theorem numL_msk : ∀ (n : Nat) (u : List Int), n ≤ 8 → okU n u → msk (numL u) ∧ ∀ x : Nat, x < 8 → bitT (numL u) (x : Int) = decide ((x : Int) ∈ u)
  | 0, u, _, h => by
    cases u with
    | nil => exact ⟨msk_zero.1, fun x hx => by rw [show numL [] = 0 from rfl, msk_zero.2 x hx]; simp⟩
    | cons a r => have := h.2 a List.mem_cons_self; omega
  | n + 1, u, hn, h => by
    by_cases hm : (n : Int) ∈ u
    · obtain ⟨v, rfl⟩ : ∃ v, u = v ++ [(n : Int)] := by
        rcases List.eq_nil_or_concat u with rfl | ⟨v, x, rfl⟩
        · cases hm
        · refine ⟨v, ?_⟩
          rw [List.concat_eq_append] at hm h ⊢
          have h1 := List.pairwise_append.1 h.1
          rcases List.mem_append.1 hm with h2 | h2
          · have h3 := h1.2.2 _ h2 x (by simp)
            have h4 := (h.2 x (by simp)).2
            omega
          · simp at h2; rw [h2]
      have h1 := List.pairwise_append.1 h.1
      have hv : okU n v := ⟨h1.1, fun x hx => ⟨(h.2 x (by simp [hx])).1, h1.2.2 x hx _ (by simp)⟩⟩
      obtain ⟨h2, h3⟩ := numL_msk n v (by omega) hv
      have h4 := numL_lt n v hv
      have h0 := numL_nonneg v
      have hor : numL (v ++ [(n : Int)]) = Go.bits .or .i64 (numL v) (bit1 (n : Int)) := by
        obtain ⟨a, ha⟩ : ∃ a : Nat, numL v = a := ⟨(numL v).toNat, by omega⟩
        have hal : a < 2 ^ n := by
          have e : ((2 ^ n : Nat) : Int) = (2 : Int) ^ n := by simp
          omega
        have h256 : a < 256 := by have := h2.2; omega
        have hb := bit1_n (x := n) (by omega)
        rw [numL_snoc, ha, hb.1, (or_n h256 hb.2).1]
        have : a ||| 2 ^ n = 2 ^ n + a := by
          have e := Nat.two_pow_add_eq_or_of_lt hal 1
          rw [Nat.mul_one] at e
          rw [Nat.or_comm, ← e]
        rw [this, Int.toNat_natCast]
        simp; omega
      have hone := msk_one (x := n) (by omega)
      have ho := msk_or h2 hone.1
      rw [hor]
      refine ⟨ho.1, fun x hx => ?_⟩
      rw [ho.2 x hx, h3 x hx, hone.2 x hx]
      by_cases c : n = x
      · subst c; simp
      · have : ¬ ((x : Int) = (n : Int)) := by omega
        simp [c, this]
    · have hv : okU n u := ⟨h.1, fun x hx => ⟨(h.2 x hx).1, by
        have h3 := (h.2 x hx).2
        have h4 : x ≠ n := fun e => hm (e ▸ hx)
        omega⟩⟩
      exact numL_msk n u (by omega) hv
theorem numL_zero {u : List Int} : numL u = 0 ↔ u.length = 0 := by
  cases u with
  | nil => simp [numL]
  | cons a r =>
    have h : (0 : Int) < 2 ^ a.toNat := Int.pow_pos (by omega)
    have := numL_nonneg r
    simp only [numL, List.map_cons, List.sum_cons] at this ⊢
    constructor
    · intro; omega
    · intro h; simp at h
theorem mask_fold {n : Nat} (hn : n ≤ 8) : ∀ (c : List Int) (m : Int), msk m → (∀ x ∈ c, 0 ≤ x ∧ x < n) → msk (c.foldl (fun m x => Go.bits .or .i64 m (bit1 x)) m) ∧ ∀ x : Nat, x < 8 → bitT (c.foldl (fun m x => Go.bits .or .i64 m (bit1 x)) m) (x : Int) = (bitT m x || decide ((x : Int) ∈ c))
  | [], m, hm, _ => ⟨hm, fun x _ => by simp⟩
  | a :: r, m, hm, hc => by
    obtain ⟨a, rfl⟩ : ∃ k : Nat, a = k := ⟨a.toNat, by have := hc a (by simp); omega⟩
    have ha := hc a (by simp)
    have hone := msk_one (x := a) (by omega)
    have ho := msk_or hm hone.1
    obtain ⟨h1, h2⟩ := mask_fold hn r _ ho.1 (fun x hx => hc x (by simp [hx]))
    refine ⟨h1, fun x hx => ?_⟩
    rw [List.foldl_cons, h2 x hx, ho.2 x hx, hone.2 x hx]
    have e : decide (a = x) = decide ((x : Int) = (a : Int)) := by
      by_cases c : a = x
      · simp [c]
      · have : ¬ ((x : Int) = (a : Int)) := by omega
        simp [c, this]
    rw [e, Bool.or_assoc]
    congr 1
    by_cases c : (x : Int) = (a : Int) <;> simp [c]
theorem maskL_msk {n : Nat} (hn : n ≤ 8) {c : List Int} (hc : ∀ x ∈ c, 0 ≤ x ∧ x < n) : msk (maskL c) ∧ ∀ x : Nat, x < 8 → bitT (maskL c) (x : Int) = decide ((x : Int) ∈ c) := by
  obtain ⟨h1, h2⟩ := mask_fold hn c 0 msk_zero.1 hc
  exact ⟨h1, fun x hx => by
    show bitT (c.foldl (fun m x => Go.bits .or .i64 m (bit1 x)) 0) (x : Int) = _
    rw [h2 x hx, msk_zero.2 x hx]; simp⟩
theorem around_fold {n : Nat} (hn : n ≤ 8) {es : List (Int × Int)} {w : List Int} (hw : netI n es w) {set : Int} (hs : msk set) : ∀ k : Nat, k ≤ n → msk ((ints k).foldl (fun out i => if bitT set i then Go.bits .or .i64 out (gi w i) else out) set) ∧
    ∀ x : Nat, x < 8 → bitT ((ints k).foldl (fun out i => if bitT set i then Go.bits .or .i64 out (gi w i) else out) set) (x : Int) = (bitT set x || (List.range k).any (fun (a : Nat) => bitT set (a : Int) && nearG es a x))
  | 0, _ => ⟨hs, fun x _ => by simp [ints]⟩
  | k + 1, h => by
    obtain ⟨h1, h2⟩ := around_fold hn hw hs k (by omega)
    rw [ints_succ, List.foldl_append]
    simp only [List.foldl_cons, List.foldl_nil]
    have hwk := hw.2 k (by omega)
    by_cases c : bitT set (k : Int) = true
    · rw [if_pos c]
      have ho := msk_or h1 hwk.1
      refine ⟨ho.1, fun x hx => ?_⟩
      rw [ho.2 x hx, h2 x hx, hwk.2 x hx, List.range_succ, List.any_append, Bool.or_assoc]
      simp [c]
    · rw [if_neg c]
      refine ⟨h1, fun x hx => ?_⟩
      rw [h2 x hx, List.range_succ, List.any_append]
      simp [c]
theorem around_msk {n : Nat} {es : List (Int × Int)} (hG : goodG (n : Int) es = true) {set : Int} (hs : msk set) : msk (aroundW (netW n es) set) ∧ ∀ x : Nat, x < 8 → bitT (aroundW (netW n es) set) (x : Int) = (bitT set x || (List.range n).any (fun (a : Nat) => bitT set (a : Int) && nearG es a x)) := by
  have h := around_fold (good_n hG) (net_ok hG) hs n (Nat.le_refl _)
  unfold aroundW
  rw [netW_len]
  exact h
theorem num_rest {n : Nat} (hn : n ≤ 8) {u c : List Int} (hu : okU n u) (hc : ∀ x ∈ c, 0 ≤ x ∧ x < n) : Go.bits .andNot .i64 (numL u) (maskL c) = numL (restL u c) := by
  have h1 := numL_msk n u hn hu
  have h2 := maskL_msk hn hc
  have h3 := numL_msk n _ hn (okU_rest (c := c) hu)
  have h4 := msk_anot h1.1 h2.1
  refine msk_ext h4.1 h3.1 (fun x hx => ?_)
  rw [h4.2 x hx, h1.2 x hx, h2.2 x hx, h3.2 x hx]
  by_cases a : (x : Int) ∈ u <;> by_cases b : (x : Int) ∈ c <;> simp [mem_rest, a, b]
theorem unsafe_next {n : Nat} {es : List (Int × Int)} (hG : goodG (n : Int) es = true) {u c : List Int} (hu : okU n u) (hc : ∀ x ∈ c, 0 ≤ x ∧ x < n) : unsafeW (netW n es) (numL u) c = numL (nextL ((ints n).map (ballG n es)) u c) := by
  have hn := good_n hG
  unfold unsafeW
  rw [num_rest hn hu hc]
  have hr := okU_rest (c := c) hu
  have h1 := numL_msk n _ hn hr
  have h2 := maskL_msk hn hc
  have h3 := around_msk hG h1.1
  have h4 := msk_anot h3.1 h2.1
  have h5 := numL_msk n _ hn (next_ok (es := es) (c := c) hu)
  refine msk_ext h4.1 h5.1 (fun x hx => ?_)
  rw [h4.2 x hx, h3.2 x hx, h2.2 x hx, h1.2 x hx, h5.2 x hx]
  rw [Bool.eq_iff_iff]
  simp only [Bool.and_eq_true, Bool.or_eq_true, decide_eq_true_eq, Bool.not_eq_true', decide_eq_false_iff_not, List.any_eq_true, List.mem_range]
  rw [mem_next hu]
  constructor
  · rintro ⟨h6, h7⟩
    rcases h6 with h6 | ⟨a, ha, h6, h8⟩
    · have hm := mem_rest.1 h6
      exact ⟨(x : Int), hm.1, hm.2, (mem_ball (hu.2 _ hm.1)).2 ⟨hu.2 _ hm.1, .inr rfl⟩, h7⟩
    · rw [h1.2 a (by omega), decide_eq_true_eq] at h6
      have hm := mem_rest.1 h6
      exact ⟨(a : Int), hm.1, hm.2, (mem_ball (hu.2 _ hm.1)).2 ⟨near_lt hG h8, .inl h8⟩, h7⟩
  · rintro ⟨y, hy, hyc, hb, h7⟩
    refine ⟨?_, h7⟩
    have hyb := hu.2 y hy
    obtain ⟨y, rfl⟩ : ∃ k : Nat, y = k := ⟨y.toNat, by omega⟩
    have hbm := (mem_ball hyb).1 hb
    rcases hbm.2 with h8 | h8
    · exact .inr ⟨y, by omega, by rw [h1.2 y (by omega), decide_eq_true_eq]; exact mem_rest.2 ⟨hy, hyc⟩, h8⟩
    · rw [h8]; exact .inl (mem_rest.2 ⟨hy, hyc⟩)

/-! ### The states with the walks' lengths -/
abbrev Lk := Stt × Int
abbrev cK (e : Lk) : List AV := [I e.1.2.2, I e.1.1, I (numL e.1.2.1), I e.2]
abbrev keyK (e : Lk) : Int × Int := (e.1.1, numL e.1.2.1)
def putQ (q : List Lk) (e : Lk) : List Lk := if (q.map keyK).contains (keyK e) then q else q ++ [e]
abbrev ftS (q : List Lk) : List Stt := q.map (fun e => e.1)
theorem gi_ft {q : List Lk} {j : Nat} (h : j < q.length) : gi (ftS q) (j : Int) = (gi q (j : Int)).1 := by
  rw [gi_natG (by simpa using h), gi_natG h]; simp
theorem put_add {n M : Nat} {q : List Lk} {e : Lk} (h : okL n M (ftS q)) (he : okU n e.1.2.1) : ftS (putQ q e) = addS n (ftS q) e.1 := by
  have hc : (q.map keyK).contains (keyK e) = (ftS q).any (fun t => decide (codeS n t = codeS n e.1)) := by
    rw [Bool.eq_iff_iff]
    simp only [List.contains_iff_mem, List.mem_map, List.any_eq_true, decide_eq_true_eq]
    constructor
    · rintro ⟨x, hx, hk⟩
      refine ⟨x.1, ⟨x, hx, rfl⟩, ?_⟩
      simp only [keyK, Prod.mk.injEq] at hk
      simp only [codeS, hk.1, hk.2]
    · rintro ⟨_, ⟨x, hx, rfl⟩, hk⟩
      refine ⟨x, hx, ?_⟩
      obtain ⟨j, hj, rfl⟩ := mem_gi hx
      have hu := (h.each j (by simpa using hj)).u
      rw [gi_ft hj] at hu
      obtain ⟨h1, h2⟩ := code_inj hu he hk
      simp only [keyK, h1, h2]
  unfold putQ addS
  rw [hc]
  split
  · rfl
  · simp
structure SInv (n M i : Nat) (q : List Lk) : Prop where
  ok : okL n M (ftS q)
  hi : i ≤ q.length
  l1 : ∀ j, j < q.length → (gi q (j : Int)).1.2.2 < 0 → (gi q (j : Int)).2 = 1
  l2 : ∀ j, j < q.length → 0 ≤ (gi q (j : Int)).1.2.2 → (gi q (j : Int)).2 = (gi q (gi q (j : Int)).1.2.2).2 + 1
  l3 : ∀ a b, a ≤ b → b < q.length → (gi q (a : Int)).2 ≤ (gi q (b : Int)).2
  l4 : i < q.length → ∀ b, b < q.length → (gi q (b : Int)).2 ≤ (gi q (i : Int)).2 + 1
  l5 : ∀ j, j < q.length → 1 ≤ (gi q (j : Int)).2
theorem SInv.put {n M i : Nat} {q : List Lk} (h : SInv n M i q) (hi : i < q.length) {m : Int} {u : List Int} (hm : 0 ≤ m ∧ m < M) (hu : okU n u) : SInv n M i (putQ q ((m, u, (i : Int)), (gi q (i : Int)).2 + 1)) ∧ ∃ r, putQ q ((m, u, (i : Int)), (gi q (i : Int)).2 + 1) = q ++ r := by
  have hft := put_add (e := ((m, u, (i : Int)), (gi q (i : Int)).2 + 1)) h.ok hu
  have hok := h.ok.add (s := (m, u, (i : Int))) ⟨hm.1, hm.2, hu, by show (-1 : Int) ≤ i; omega, by show (i : Int) < (ftS q).length; rw [List.length_map]; omega⟩
  have hok2 : okL n M (ftS (putQ q ((m, u, (i : Int)), (gi q (i : Int)).2 + 1))) := by rw [hft]; exact hok
  unfold putQ at hok2 ⊢
  split
  · exact ⟨h, [], by simp⟩
  · rename_i hc
    rw [if_neg hc] at hok2
    refine ⟨?_, _, rfl⟩
    generalize he : (((m, u, (i : Int)), (gi q (i : Int)).2 + 1) : Lk) = e at hok2 ⊢
    have e1 : e.1.2.2 = i := by rw [← he]
    have e2 : e.2 = (gi q (i : Int)).2 + 1 := by rw [← he]
    have old : ∀ j : Nat, j < q.length → gi (q ++ [e]) (j : Int) = gi q (j : Int) := fun j hj => gi_app hj
    have new : gi (q ++ [e]) (q.length : Int) = e := gi_last
    have hlen : (q ++ [e]).length = q.length + 1 := by simp
    have bef : ∀ j : Nat, j < q.length → 0 ≤ (gi q (j : Int)).1.2.2 → (gi q (j : Int)).1.2.2 < j := fun j hj _ => by
      have := (h.ok.each j (by simpa using hj)).b1
      rwa [gi_ft hj] at this
    refine ⟨hok2, by omega, fun j hj h0 => ?_, fun j hj h0 => ?_, fun a b hab hb => ?_, fun _ b hb => ?_, fun j hj => ?_⟩
    · by_cases c : j < q.length
      · rw [old j c] at h0 ⊢; exact h.l1 j c h0
      · obtain rfl : j = q.length := by omega
        rw [new] at h0; omega
    · by_cases c : j < q.length
      · rw [old j c] at h0 ⊢
        have hb := bef j c h0
        rw [h.l2 j c h0]
        obtain ⟨k, hk⟩ : ∃ k : Nat, (gi q (j : Int)).1.2.2 = k := ⟨(gi q (j : Int)).1.2.2.toNat, by omega⟩
        rw [hk, old k (by omega)]
      · obtain rfl : j = q.length := by omega
        rw [new, e1, e2, old i hi]
    · by_cases c : b < q.length
      · rw [old a (by omega), old b c]; exact h.l3 a b hab c
      · obtain rfl : b = q.length := by omega
        rw [new, e2]
        by_cases c2 : a < q.length
        · rw [old a c2]; exact h.l4 hi a c2
        · obtain rfl : a = q.length := by omega
          rw [new, e2]; omega
    · rw [old i hi]
      by_cases c : b < q.length
      · rw [old b c]; exact h.l4 hi b c
      · obtain rfl : b = q.length := by omega
        rw [new, e2]; omega
    · by_cases c : j < q.length
      · rw [old j c]; exact h.l5 j c
      · obtain rfl : j = q.length := by omega
        rw [new, e2]
        have := h.l5 i hi
        omega
def expP (cfg balls : List (List Int)) (i : Nat) (q : List Lk) (l : List Int) : List Lk := l.foldl (fun r m => putQ r ((m, nextL balls (gi q (i : Int)).1.2.1 (gi cfg m), (i : Int)), (gi q (i : Int)).2 + 1)) q
theorem expP_facts {n M i : Nat} {cfg : List (List Int)} {es : List (Int × Int)} {q : List Lk} (h : SInv n M i q) (hi : i < q.length) {l : List Int} (hm : ∀ m ∈ l, 0 ≤ m ∧ m < M) :
    SInv n M i (expP cfg ((ints n).map (ballG n es)) i q l) ∧ (∃ r, expP cfg ((ints n).map (ballG n es)) i q l = q ++ r) ∧ ftS (expP cfg ((ints n).map (ballG n es)) i q l) = expS n cfg ((ints n).map (ballG n es)) i (gi (ftS q) (i : Int)) (ftS q) l := by
  have hu : okU n (gi q (i : Int)).1.2.1 := by
    have := (h.ok.each i (by simpa using hi)).u
    rwa [gi_ft hi] at this
  suffices key : ∀ (l : List Int) (r : List Lk), (∀ m ∈ l, 0 ≤ m ∧ m < M) → SInv n M i r → (∃ t, r = q ++ t) →
      SInv n M i (l.foldl (fun r m => putQ r ((m, nextL ((ints n).map (ballG n es)) (gi q (i : Int)).1.2.1 (gi cfg m), (i : Int)), (gi q (i : Int)).2 + 1)) r) ∧
      (∃ t, l.foldl (fun r m => putQ r ((m, nextL ((ints n).map (ballG n es)) (gi q (i : Int)).1.2.1 (gi cfg m), (i : Int)), (gi q (i : Int)).2 + 1)) r = q ++ t) ∧
      ftS (l.foldl (fun r m => putQ r ((m, nextL ((ints n).map (ballG n es)) (gi q (i : Int)).1.2.1 (gi cfg m), (i : Int)), (gi q (i : Int)).2 + 1)) r) = expS n cfg ((ints n).map (ballG n es)) i (gi q (i : Int)).1 (ftS r) l by
    have := key l q hm h ⟨[], by simp⟩
    rw [gi_ft hi]
    exact this
  intro l
  induction l with
  | nil => intro r _ hr ht; exact ⟨hr, ht, rfl⟩
  | cons m l ih =>
    intro r hm hr ht
    obtain ⟨t, ht⟩ := ht
    have hri : gi r (i : Int) = gi q (i : Int) := by rw [ht]; exact gi_app hi
    have hrl : i < r.length := by rw [ht, List.length_append]; omega
    have hnu := next_ok (es := es) (c := gi cfg m) hu
    obtain ⟨h1, t2, h2⟩ := hr.put hrl (hm m List.mem_cons_self) hnu
    rw [hri] at h1 h2
    have h3 := put_add (e := ((m, nextL ((ints n).map (ballG n es)) (gi q (i : Int)).1.2.1 (gi cfg m), (i : Int)), (gi q (i : Int)).2 + 1)) hr.ok hnu
    rw [List.foldl_cons]
    obtain ⟨g1, g2, g3⟩ := ih _ (fun x hx => hm x (List.mem_cons_of_mem _ hx)) h1 ⟨t ++ t2, by rw [h2, ht, List.append_assoc]⟩
    exact ⟨g1, g2, by rw [g3, h3]; rfl⟩
theorem SInv.next {n M i : Nat} {q : List Lk} (h : SInv n M i q) (hi : i < q.length) : SInv n M (i + 1) q :=
  ⟨h.ok, hi, h.l1, h.l2, h.l3, fun h1 b hb => by have := h.l4 hi b hb; have := h.l3 i (i + 1) (by omega) h1; omega, h.l5⟩
def iniP (n : Nat) (cfg : List (List Int)) (c : Nat) : List Lk := (initS n cfg c).map (fun s => (s, 1))
theorem iniP_ft (n : Nat) (cfg : List (List Int)) (c : Nat) : ftS (iniP n cfg c) = initS n cfg c := by simp [iniP, Function.comp_def]
theorem iniP_gi {n : Nat} {cfg : List (List Int)} {c j : Nat} (h : j < c) : gi (iniP n cfg c) (j : Int) = (((j : Int), restL (ints n) (gi cfg j), -1), 1) := by
  have hl : (initS n cfg c).length = c := initS_len n cfg c
  unfold iniP
  rw [gi_natG (by rw [List.length_map, hl]; exact h), List.getElem_map, ← gi_natG (by rw [hl]; exact h), initS_gi h]
theorem iniP_len (n : Nat) (cfg : List (List Int)) (c : Nat) : (iniP n cfg c).length = c := by simp [iniP, initS_len]
theorem iniP_inv (n M : Nat) (cfg : List (List Int)) {c : Nat} (h : c ≤ M) : SInv n M 0 (iniP n cfg c) := by
  have g : ∀ j, j < (iniP n cfg c).length → gi (iniP n cfg c) (j : Int) = (((j : Int), restL (ints n) (gi cfg j), -1), 1) := fun j hj => iniP_gi (by rw [iniP_len] at hj; exact hj)
  refine ⟨by rw [iniP_ft]; exact initS_ok n M cfg c h, Nat.zero_le _, fun j hj _ => by rw [g j hj], fun j hj h0 => ?_, fun a b hab hb => by rw [g b hb, g a (by omega)]; exact Int.le_refl _, fun h0 b hb => by rw [g b hb, g 0 h0]; show (1 : Int) ≤ 1 + 1; omega, fun j hj => by rw [g j hj]; exact Int.le_refl _⟩
  rw [g j hj] at h0
  simp only [] at h0
  omega
theorem iniP_put (n : Nat) (cfg : List (List Int)) (c : Nat) : putQ (iniP n cfg c) (((c : Int), restL (ints n) (gi cfg c), -1), 1) = iniP n cfg (c + 1) := by
  have h := iniP_inv n (c + 1) cfg (c := c) (by omega)
  have h2 : ((iniP n cfg c).map keyK).contains (keyK (((c : Int), restL (ints n) (gi cfg c), -1), 1)) = false := by
    rw [Bool.eq_false_iff]
    intro h3
    simp only [List.contains_iff_mem, List.mem_map] at h3
    obtain ⟨x, hx, hk⟩ := h3
    obtain ⟨j, hj, rfl⟩ := mem_gi hx
    rw [iniP_len] at hj
    rw [iniP_gi hj] at hk
    simp only [keyK, Prod.mk.injEq] at hk
    omega
  unfold putQ
  rw [h2]
  simp [iniP, initS_succ]
/-! ### The walk that is handed back -/
theorem trace_fuel {n M : Nat} {cfg : List (List Int)} {st : List Stt} (h : okL n M st) : ∀ (f g a : Nat) (out : List (List Int)), a < f → a < g → a < st.length → traceA cfg st f a out = traceA cfg st g a out := by
  intro f
  induction f with
  | zero => intro g a out h1; omega
  | succ f ih =>
    intro g a out h1 h2 h3
    obtain ⟨g, rfl⟩ : ∃ k, g = k + 1 := ⟨g - 1, by omega⟩
    simp only [traceA]
    rw [if_pos (by omega), if_pos (by omega)]
    have hb := (h.each a h3).b1
    by_cases c : 0 ≤ (gi st (a : Int)).2.2
    · obtain ⟨k, hk⟩ : ∃ k : Nat, (gi st (a : Int)).2.2 = k := ⟨(gi st (a : Int)).2.2.toNat, by omega⟩
      rw [hk]
      exact ih g k _ (by omega) (by omega) (by omega)
    · rcases f with _ | f <;> rcases g with _ | g <;> simp only [traceA] <;> (try rw [if_neg c]) <;> (try rw [if_neg c])
theorem trace_len {n M i : Nat} {cfg : List (List Int)} {q : List Lk} (h : SInv n M i q) : ∀ (f a : Nat) (out : List (List Int)), a < f → a < q.length → ((traceA cfg (ftS q) f a out).length : Int) = out.length + (gi q (a : Int)).2 := by
  intro f
  induction f with
  | zero => intro a out h1; omega
  | succ f ih =>
    intro a out h1 h2
    have hb := (h.ok.each a (by simpa using h2)).b1
    simp only [traceA]
    rw [if_pos (by omega)]
    rw [gi_ft h2] at hb ⊢
    by_cases c : 0 ≤ (gi q (a : Int)).1.2.2
    · obtain ⟨k, hk⟩ : ∃ k : Nat, (gi q (a : Int)).1.2.2 = k := ⟨(gi q (a : Int)).1.2.2.toNat, by omega⟩
      have h5 := h.l2 a h2 c
      rw [hk] at h5 hb ⊢
      rw [ih k _ (by omega) (by omega), h5]
      simp; omega
    · rw [h.l1 a h2 (by omega)]
      rcases f with _ | f
      · simp [traceA]
      · simp only [traceA]
        rw [if_neg c]
        simp
theorem bfs_long {n M : Nat} {cfg mv : List (List Int)} {es : List (Int × Int)} (hmv : ∀ p : Int, 0 ≤ p → p < M → ∀ m ∈ gi mv p, 0 ≤ m ∧ m < M) : ∀ (f : Nat) (q : List Lk) (i : Nat) (st : List Stt) (i' : Nat), SInv n M i q → i < q.length → bfsS n cfg mv ((ints n).map (ballG n es)) f (ftS q) i = some (st, i') →
    ∃ q', ftS q' = st ∧ SInv n M i' q' ∧ i' < q'.length ∧ (gi q (i : Int)).2 ≤ (gi q' (i' : Int)).2 := by
  intro f
  induction f with
  | zero => intro q i st i' _ _ hb; simp [bfsS] at hb
  | succ f ih =>
    intro q i st i' h hi hb
    simp only [bfsS] at hb
    rw [if_pos (by simpa using hi)] at hb
    by_cases c : (gi (ftS q) (i : Int)).2.1.length = 0
    · rw [if_pos c] at hb
      simp only [Option.some.injEq, Prod.mk.injEq] at hb
      obtain ⟨rfl, rfl⟩ := hb
      exact ⟨q, rfl, h, hi, Int.le_refl _⟩
    · rw [if_neg c] at hb
      have hst := h.ok.each i (by simpa using hi)
      obtain ⟨g1, ⟨t, g2⟩, g3⟩ := expP_facts (cfg := cfg) (es := es) h hi (hmv _ hst.p0 hst.p1)
      rw [← g3] at hb
      have hlen : i < (expP cfg ((ints n).map (ballG n es)) i q (gi mv (gi (ftS q) (i : Int)).1)).length := by rw [g2, List.length_append]; omega
      have hn := g1.next hlen
      have hgi : gi (expP cfg ((ints n).map (ballG n es)) i q (gi mv (gi (ftS q) (i : Int)).1)) (i : Int) = gi q (i : Int) := by rw [g2]; exact gi_app hi
      by_cases c2 : i + 1 < (expP cfg ((ints n).map (ballG n es)) i q (gi mv (gi (ftS q) (i : Int)).1)).length
      · obtain ⟨q', k1, k2, k3, k4⟩ := ih _ _ _ _ hn c2 hb
        refine ⟨q', k1, k2, k3, Int.le_trans ?_ k4⟩
        rw [← hgi]
        exact hn.l3 i (i + 1) (by omega) c2
      · rcases f with _ | f
        · simp [bfsS] at hb
        · simp only [bfsS] at hb
          rw [if_neg (by rw [List.length_map]; exact c2)] at hb
          cases hb
end Go.Proofs.YtmiijpobhajfmaaGreat.J
namespace Go.Proofs.YtmiijpobhajfmaaGreat.J
open Go Go.RowKit
set_option maxRecDepth 20000
set_option linter.unusedVariables false
set_option linter.unusedSimpArgs false

instance : LdT Tryz.prog 108 none := ⟨by kernel_rfl⟩
instance : SzT Tryz.prog 108 1 := ⟨by kernel_rfl⟩
instance : ZrT Tryz.prog 108 [.map none] := ⟨by kernel_rfl⟩
section
variable {P : Program} {C : Ctx} {o : Oper} {s : AS}
theorem enters_cloE {g nf : Nat} {cs all : List AV} {x : Operand} {fn : Func} {args : List Operand} {tys : Array TypeId} {ins : List AV} (ho : o.op = .call { callee := .value x, args := args.toArray, argTypes := tys }) (hx : ev s x = some (.clo g nf cs)) (hf : P.funcs[g]? = some fn) (hb : fn.body.isNone = false)
    (hnm : (fn.name == "runtime.NumGoroutine") = false) (he : evA s args ins) (hnf : nf ≤ cs.length) (hall : cs.take nf ++ ins ++ cs.drop nf = all) : Enters P C s o g all := hall ▸ enters_clo (C := C) ho hx hf hb hnm he hnf
theorem pure_buildA {T n E sz : Nat} {l : List (Nat × Operand)} {xs : List (Nat × List AV)} {zs : List Value} {cs : List AV} (ho : o.op = .build T l.toArray) (hu : P.underlying T = some (.array n E)) (hs : (P.info? E).map (·.size) = some sz) (hT : zeroK P T = some zs) (hp : BParts s l xs) (hf : fillA (fun i => some (i * sz, sz)) (zs.map .val) xs = some cs) : PureOp P C o s (.agg cs) := fun ψ φ a w hF => by
  unfold zeroK at hT
  cases hi : P.info? T with
  | none => rw [hi] at hT; cases hT
  | some it =>
    cases hz : it.zero with
    | none => rw [hi] at hT; simp [hz] at hT
    | some z =>
      have hzs : z.cells.toList = zs := by simpa [hi, hz] using hT
      subst hzs
      cases hE : P.info? E with
      | none => rw [hE] at hs; cases hs
      | some ie =>
        have hsz : ie.size = sz := by simpa [hE] using hs
        obtain ⟨A', h1, h2, h3⟩ := fill_A hF (fun i => some (i * sz, sz)) hp (z.cells.toList.map .val) z.cells cs (by simp) (fun j av u hj hu => by
          rw [List.getElem?_map, Array.getElem?_toList, hu] at hj
          obtain rfl : AV.val u = av := by simpa using hj
          exact .ro (.val u)) hf
        refine ⟨.agg A', fun w1 _ => ?_, .agg cs A' h2 h3⟩
        have hb : P.built T (l.map fun p => (p.1, a.eval p.2)) = some A' := by
          unfold Program.built
          simp only [hi, hu, hz, hE, hsz]
          rw [← h1]
        have hr := run_build (P := P) w1 T (l.map fun p => (p.1, a.eval p.2)).toArray A' (by simpa using hb)
        have e : (l.toArray.map fun (p : Nat × Operand) => (p.1, a.eval p.2)) = (l.map fun p => (p.1, a.eval p.2)).toArray := by simp
        simp only [execOp, ho]
        rw [show (Array.map (fun x : Nat × Operand => match x with | (i, x) => (i, a.eval x)) l.toArray) = (l.map fun p => (p.1, a.eval p.2)).toArray from e]
        simp [hr]
theorem p_to {rd : Option (List Nat)} {k : IntKind} {a b : Int} (e : a = b) (h : PureR P C rd o s (.val (.int k a))) : PureR P C rd o s (.val (.int k b)) := e ▸ h
end
theorem nb_t {b : Bool} (h : (!b) = true) : b = false := by cases b <;> simp_all
theorem nb_f {b : Bool} (h : (!b) = false) : b = true := by cases b <;> simp_all
theorem putQ_new {q : List Lk} {e : Lk} (h : ((q.map keyK).contains (keyK e)) = false) : putQ q e = q ++ [e] := by unfold putQ; rw [h]; rfl
theorem putQ_old {q : List Lk} {e : Lk} (h : ((q.map keyK).contains (keyK e)) = true) : putQ q e = q := by unfold putQ; rw [h]; rfl
theorem set_gi {l : List (List Int)} {m : Nat} (h : m < l.length) : l.set (m : Int).toNat (gi l (m : Int)) = l := by
  rw [Int.toNat_natCast, gi_natG h]; exact List.set_getElem_self h
theorem all_num {n : Nat} (hn : n ≤ 8) : bit1 (n : Int) - 1 = numL (ints n) := by
  rcases n with _ | _ | _ | _ | _ | _ | _ | _ | _ | n <;> first | rfl | omega
theorem AllG_spec (n : Nat) (es : List (Int × Int)) (hn : n ≤ 8) : Spec Tryz.prog 98 [Net (netW n es)] (I (numL (ints n))) [] := by
  have h := AllW_spec (netW n es) (by rw [netW_len]; exact hn)
  rwa [netW_len, all_num hn] at h
theorem UnsafeG_spec (n : Nat) (es : List (Int × Int)) (u c : List Int) (hG : goodG (n : Int) es = true) (hu : okU n u) (hc : ∀ x ∈ c, 0 ≤ x ∧ x < n) (hl : c.length < 2 ^ 40) : Spec Tryz.prog 100 [Net (netW n es), I (numL u), L c] (I (numL (nextL ((ints n).map (ballG n es)) u c))) [] := by
  have hn := good_n hG
  have h := Unsafe_spec (netW n es) (numL u) c (by rw [netW_len]; omega) hl (fun x hx => (hc x hx).1)
  rwa [unsafe_next hG hu hc] at h
theorem trace_stepQ {n M : Nat} {cfg : List (List Int)} {q : List Lk} (h : okL n M (ftS q)) {a b : Nat} (ha : a < q.length) (hb : (gi q (a : Int)).1.2.2 = (b : Int)) (out : List (List Int)) : traceA cfg (ftS q) (a + 1) a out = traceA cfg (ftS q) (b + 1) b ([gi cfg (gi q (a : Int)).1.1] ++ out) := by
  have h1 := (h.each a (by simpa using ha)).b1
  simp only [traceA]
  rw [if_pos (by omega)]
  rw [gi_ft ha] at h1 ⊢
  rw [hb] at h1 ⊢
  exact trace_fuel h a (b + 1) b _ (by omega) (by omega) (by simp; omega)
theorem trace_endQ {n M : Nat} {cfg : List (List Int)} {q : List Lk} (h : okL n M (ftS q)) {a : Nat} (ha : a < q.length) (hb : ¬ 0 ≤ (gi q (a : Int)).1.2.2) (out : List (List Int)) : traceA cfg (ftS q) (a + 1) a out = [gi cfg (gi q (a : Int)).1.1] ++ out := by
  simp only [traceA]
  rw [if_pos (by omega), gi_ft ha]
  rcases a with _ | a
  · simp [traceA]
  · simp only [traceA]; rw [if_neg hb]
/-- What the search of impl hands back. -/
def scI (n k : Nat) (es : List (Int × Int)) : List (List Int) × Bool := if (walkS n k es).2 = true ∧ (walkS n k es).1.length ≤ 40 then ((walkS n k es).1, true) else ([], false)
theorem sc_near {n k M i : Nat} {es : List (Int × Int)} {q : List Lk} {out : List (List Int)} (hw : walkS n k es = (traceA (cfgL n k) (ftS q) (i + 1) i [], true)) (h : SInv n M i q) (hi : i < q.length) (h40 : (gi q (i : Int)).2 ≤ 40) (ht : traceA (cfgL n k) (ftS q) (i + 1) i [] = out) : scI n k es = (out, true) := by
  have hl := trace_len (cfg := cfgL n k) h (i + 1) i [] (by omega) hi
  unfold scI
  rw [hw]
  simp only []
  rw [if_pos ⟨trivial, by simp at hl; omega⟩, ht]
theorem sc_none {n k : Nat} {es : List (Int × Int)} (h : bfsS n (cfgL n k) ((cfgL n k).map (mvL n es (cfgL n k))) ((ints n).map (ballG n es)) ((cfgL n k).length * 2 ^ n + 1) (initS n (cfgL n k) (cfgL n k).length) 0 = none) : scI n k es = ([], false) := by
  unfold scI
  rw [walk_miss h]
  simp
theorem sc_far {n k i f : Nat} {es : List (Int × Int)} {q : List Lk} (hG : goodG (n : Int) es = true) (hk : k ≤ 3) (h : SInv n (cfgL n k).length i q) (hi : i < q.length) (h40 : 40 < (gi q (i : Int)).2)
    (hb : bfsS n (cfgL n k) ((cfgL n k).map (mvL n es (cfgL n k))) ((ints n).map (ballG n es)) f (ftS q) i = bfsS n (cfgL n k) ((cfgL n k).map (mvL n es (cfgL n k))) ((ints n).map (ballG n es)) ((cfgL n k).length * 2 ^ n + 1) (initS n (cfgL n k) (cfgL n k).length) 0) : scI n k es = ([], false) := by
  cases hr : bfsS n (cfgL n k) ((cfgL n k).map (mvL n es (cfgL n k))) ((ints n).map (ballG n es)) f (ftS q) i with
  | none => exact sc_none (hb.symm.trans hr)
  | some r =>
    obtain ⟨st, i'⟩ := r
    obtain ⟨q', rfl, h2, h3, h4⟩ := bfs_long (es := es) (fun p h0 h1 => by rw [gi_map (by omega)]; exact mv_bd (good_n hG) hk (gi_memI (by omega))) f q i st i' h hi hr
    have hw := walk_hit (hb.symm.trans hr)
    have hl := trace_len (cfg := cfgL n k) h2 (i' + 1) i' [] (by omega) h3
    unfold scI
    rw [hw]
    simp only []
    rw [if_neg (by simp at hl ⊢; omega)]

theorem PutC_spec (q : List Lk) (e : Lk) (hl : q.length < 2^20) : SpecM Tryz.prog 109 [(1000001, .box 108 [.own 1000002 []]), (1000002, Mp (q.map keyK)), (1000003, .box 107 [.own 1000004 []]), (1000004, Ow 110 4 cK q)] [.agg [I e.1.2.2, I e.1.1, I (numL e.1.2.1), I e.2], .box 1000001 0, .box 1000003 0] (.tup []) [(1000001, .box 108 [.own 1000002 []]), (1000002, Mp ((putQ q e).map keyK)), (1000003, .box 107 [.own 1000004 []]), (1000004, Ow 110 4 cK (putQ q e))] := by
  refine SpecM.intro (c := _) Tryz.func109 rfl (Nat.le_of_ble_eq_true rfl) (fun C hC hfx => ?_)
  have hn : C.n = 20 := hC
  refine (show J _ _ _ _ (⟨[(0, .agg [I e.1.2.2, I e.1.1, I (numL e.1.2.1), I e.2]), (1, .box 1000001 0), (2, .box 1000003 0)], [(1000001, .box 108 [.own 1000002 []]), (1000002, Mp (q.map keyK)), (1000003, .box 107 [.own 1000004 []]), (1000004, Ow 110 4 cK q)]⟩ : AS) from ?_)
  refine J_seq ?_
  refine J_region ?_
  refine jl_o rfl (op_box_agg rfl rfl (ltn hn rfl) rfl rfl rfl) ?_
  refine JL_nil ?_
  refine J_seq ?_
  refine J_region ?_
  refine jl rfl rfl (ltn hn rfl) (p_fld_b rfl rfl rfl) ?_
  refine jl rfl rfl (ltn hn rfl) (p_ld_b rfl rfl rfl rfl) ?_
  refine jl rfl rfl (ltn hn rfl) (p_fld_b rfl rfl rfl) ?_
  refine jl rfl rfl (ltn hn rfl) (p_ld_b rfl rfl rfl rfl) ?_
  refine jl rfl rfl (ltn hn rfl) (pure_buildA (l := [(0, .tmp 6), (1, .tmp 8)]) rfl ArT.und (ArT.siz 89) ZrT.out (.one rfl rfl (.one rfl rfl .nil)) rfl) ?_
  refine jl_o rfl (@op_alloc _ _ _ _ _ _ _ rfl ZrT.out rfl rfl (ltn hn rfl) rfl) ?_
  refine jl_o rfl (op_store_box_agg rfl rfl (by exact SzT.out) rfl rfl (by exact Nat.le_of_ble_eq_true rfl) rfl rfl) ?_
  refine JL_nil ?_
  refine J_seq ?_
  refine J_region ?_
  refine jl rfl rfl (ltn hn rfl) (p_ld_b rfl rfl rfl rfl) ?_
  refine jl rfl rfl (ltn hn rfl) (p_ld_ba rfl rfl rfl (Nat.le_of_ble_eq_true rfl) rfl) ?_
  refine jl rfl rfl (ltn hn rfl) (p_lookup (p := (keyK e)) rfl rfl (is2_of rfl rfl rfl) rfl rfl rfl rfl) ?_
  refine jl rfl rfl (ltn hn rfl) (pure_not_b rfl rfl) ?_
  refine JL_nil ?_
  refine J_cond rfl (fun h1 => ?_) (fun h1 => ?_)
  ·
    refine J_seq ?_
    refine J_region ?_
    refine jl rfl rfl (ltn hn rfl) (p_ld_b rfl rfl rfl rfl) ?_
    refine jl rfl rfl (ltn hn rfl) (p_ld_ba rfl rfl rfl (Nat.le_of_ble_eq_true rfl) rfl) ?_
    refine jl_o rfl (op_mapSet (p := (keyK e)) rfl rfl rfl (is2_of rfl rfl rfl) rfl rfl rfl rfl (by exact nb_t h1)) ?_
    refine JL_nil ?_
    refine J_region ?_
    refine jl rfl rfl (ltn hn rfl) (p_ld_b rfl rfl rfl rfl) ?_
    refine jl rfl rfl (ltn hn rfl) (p_ld_ba rfl rfl rfl (Nat.le_of_ble_eq_true rfl) rfl) ?_
    refine jl_o rfl (@op_lit1_agg _ _ _ _ _ cK e _ _ _ _ _ _ _ SlT.slk rfl rfl (ltn hn rfl) rfl rfl rfl rfl (Nat.le_of_ble_eq_true rfl) rfl rfl) ?_
    refine jl_o rfl (op_append_m SlT.slk rfl rfl (ltn hn rfl) rfl rfl (src_own_m rfl rfl) (by first | omega | (simp only [List.length_append, List.length_cons, List.length_nil, List.length_take, List.length_drop, List.length_map]; omega)) (by first | omega | (simp only [List.length_append, List.length_cons, List.length_nil, List.length_take, List.length_drop, List.length_map]; omega))) ?_
    refine jl_o rfl (op_store_box rfl rfl SzT.out rfl rfl (by exact Nat.le_of_ble_eq_true rfl) rfl rfl) ?_
    refine JL_nil ?_
    exact Fin_none rfl (Le_sub C _ _ trivial ⟨rfl, ⟨(eqv rfl (by rw [putQ_new (nb_t h1)]; show Obj.mp ((q.map keyK ++ [keyK e]).map kP) = _; rw [← show (q ++ [e]).map keyK = q.map keyK ++ [keyK e] by simp])), ⟨rfl, ⟨(eqv rfl (by rw [putQ_new (nb_t h1)])), trivial⟩⟩⟩⟩ rfl rfl)
  ·
    refine J_skip ?_
    exact Fin_none rfl (Le_sub C _ _ trivial ⟨rfl, ⟨(eqv rfl (by rw [putQ_old (nb_f h1)])), ⟨rfl, ⟨(eqv rfl (by rw [putQ_old (nb_f h1)])), trivial⟩⟩⟩⟩ rfl rfl)
theorem ShortI_spec (n k : Nat) (es : List (Int × Int)) (hG : goodG (n : Int) es = true) (hk : k ≤ 3) : Spec Tryz.prog 65 [Net (netW n es), I (k : Int)] (.tup [LL (scI n k es).1, B (scI n k es).2]) [] := by
  refine Spec.intro (c := _) Tryz.func65 rfl (Nat.le_of_ble_eq_true rfl) (fun C hC hfx => ?_)
  have hn : C.n = 142 := hC
  refine (show J _ _ _ _ (⟨[(0, Net (netW n es)), (1, I (k : Int))], []⟩ : AS) from ?_)
  have hn8 := good_n hG
  have hwl := netW_len n es
  have hcl := cfg_len3 hn8 hk
  have hcm := cfg_mem n k
  have hpb := pow_bd hn8
  have hNN : (cfgL n k).length * 2 ^ n ≤ 512 * 256 := Nat.mul_le_mul hcl (by exact_mod_cast hpb.2)
  refine J_seq ?_
  refine J_region ?_
  refine jl_o rfl (op_box_agg rfl rfl (ltn hn rfl) rfl rfl rfl) ?_
  refine jl rfl rfl (ltn hn rfl) (pure_assign rfl rfl) ?_
  refine jl rfl rfl (ltn hn rfl) (pure_assign rfl rfl) ?_
  refine JL_nil ?_
  refine J_seq ?_
  refine J_region ?_
  refine jl rfl rfl (ltn hn rfl) (p_ld_ba rfl rfl rfl (Nat.le_of_ble_eq_true rfl) rfl) ?_
  refine jl rfl rfl (ltn hn rfl) (pure_move rfl rfl) ?_
  refine jl_o rfl (@op_call _ _ _ _ _ _ [.tmp 19, .tmp 20] _ _ _ _ _ (CopBoard_spec n k es hG hk) rfl Tryz.func108 rfl rfl rfl (ltn hn rfl) ⟨rfl, rfl, ⟨rfl, rfl, trivial⟩⟩ rfl rfl) ?_
  refine jl rfl rfl (ltn hn rfl) (pure_assign rfl rfl) ?_
  refine JL_nil ?_
  refine J_seq ?_
  refine J_le (Le_freezeB C _ 17021 rfl rfl) ?_
  refine J_region ?_
  refine jl_o rfl (@op_allocI _ _ _ _ _ _ _ 1000003 rfl ZrT.out rfl rfl (ltn hn rfl) rfl (hfx _)) ?_
  refine JL_nil ?_
  refine J_seq ?_
  refine J_region ?_
  refine jl_o rfl (op_makeMap 1000002 rfl rfl (ltn hn rfl) rfl) ?_
  refine jl_o rfl (@op_allocI _ _ _ _ _ _ _ 1000001 rfl ZrT.out rfl rfl (ltn hn rfl) rfl (hfx _)) ?_
  refine jl_o rfl (op_store_box rfl rfl SzT.out rfl rfl (by exact Nat.le_of_ble_eq_true rfl) rfl rfl) ?_
  refine JL_nil ?_
  refine J_seq ?_
  refine J_region ?_
  refine jl rfl rfl (ltn hn rfl) (p_clo (fs := []) (cs := [.tmp 8, .tmp 7]) rfl (evA_c rfl (evA_c rfl evA_n))) ?_
  refine jl rfl rfl (ltn hn rfl) (pure_assign rfl rfl) ?_
  refine JL_nil ?_
  refine J_seq ?_
  refine J_seq ?_
  refine J_region ?_
  refine jl rfl rfl (ltn hn rfl) (pure_move rfl rfl) ?_
  refine jl rfl rfl (ltn hn rfl) (pure_nilCheck_ref rfl rfl) ?_
  refine jl rfl rfl (ltn hn rfl) (p_fld rfl rfl) ?_
  refine jl rfl rfl (ltn hn rfl) (p_ld rfl rfl rfl) ?_
  refine jl rfl rfl (ltn hn rfl) (p_len_m rfl rfl) ?_
  refine jl rfl rfl (ltn hn rfl) (pure_move rfl rfl) ?_
  refine JL_nil ?_
  refine J_block ?_
  refine J_le (Le_adoptB C _ 1000003 0 1000004 _ _ 110 4 rfl rfl rfl) ?_
  refine J_loop (X := Nat) (fun c => ⟨[(2, .box 2 0), (6, .ref [L (netW n es), LL (cfgL n k), LL ((cfgL n k).map (mvL n es (cfgL n k))), Nil]), (7, .box 1000003 0), (9, .clo 109 0 [.box 1000001 0, .box 1000003 0]), (27, LL (cfgL n k)), (28, I ((cfgL n k).length : Int)), (29, I (c : Nat))], [(2, .box 62 [L (netW n es)]), (1000001, .box 108 [.own 1000002 []]), (1000002, Mp ((iniP n (cfgL n k) c).map keyK)), (1000003, .box 107 [.own 1000004 []]), (1000004, Ow 110 4 cK (iniP n (cfgL n k) c))]⟩) (fun c => c ≤ (cfgL n k).length) (fun c => (cfgL n k).length - c) 0 ?_ ?_ ?_
  · omega
  ·
    refine Le_sub C _ _ ⟨rfl, ⟨rfl, ⟨rfl, ⟨rfl, ⟨rfl, ⟨rfl, ⟨rfl, trivial⟩⟩⟩⟩⟩⟩⟩ ⟨rfl, ⟨rfl, ⟨rfl, ⟨rfl, ⟨rfl, trivial⟩⟩⟩⟩⟩ rfl rfl
  ·
    intro c hc
    refine J_seq ?_
    refine J_region ?_
    refine jl rfl rfl (ltn hn rfl) (pure_lss rfl rfl rfl) ?_
    refine JL_nil ?_
    refine J_seq ?_
    refine J_cond_p rfl (fun h1 => ?_) (fun h1 => ?_)
    ·
      have hcc := hcm _ (gi_mem (l := cfgL n k) (i := c) (by omega))
      have hil := iniP_len n (cfgL n k) c
      refine J_skip ?_
      refine J_seq ?_
      refine J_block ?_
      refine J_seq ?_
      refine J_region ?_
      refine jl rfl rfl (ltn hn rfl) (pure_move rfl rfl) ?_
      refine jl rfl rfl (ltn hn rfl) (p_idx rfl rfl rfl (by omega) (mget (by omega))) ?_
      refine jl rfl rfl (ltn hn rfl) (p_ld rfl rfl rfl) ?_
      refine jl rfl rfl (ltn hn rfl) (pure_assign rfl rfl) ?_
      refine jl rfl rfl (ltn hn rfl) (pure_assign rfl rfl) ?_
      refine JL_nil ?_
      refine J_region ?_
      refine jl rfl rfl (ltn hn rfl) (pure_move rfl rfl) ?_
      refine jl rfl rfl (ltn hn rfl) (pure_move rfl rfl) ?_
      refine jl rfl rfl (ltn hn rfl) (p_ld_ba rfl rfl rfl (Nat.le_of_ble_eq_true rfl) rfl) ?_
      refine jl_o rfl (@op_call _ _ _ _ _ _ [.tmp 36] _ _ _ _ _ (AllG_spec n es hn8) rfl Tryz.func98 rfl rfl rfl (ltn hn rfl) ⟨rfl, rfl, trivial⟩ rfl rfl) ?_
      refine jl rfl rfl (ltn hn rfl) (pure_move rfl rfl) ?_
      refine jl_o rfl (@op_call _ _ _ _ _ _ [.tmp 38] _ _ _ _ _ (Mask_spec (gi (cfgL n k) (c : Nat)) (by omega) (fun x hx => (hcc.2 x hx).1)) rfl Tryz.func99 rfl rfl rfl (ltn hn rfl) ⟨rfl, rfl, trivial⟩ rfl rfl) ?_
      refine jl rfl rfl (ltn hn rfl) (p_to (num_rest hn8 (okU_ints n) hcc.2) (p_bits rfl (by simp) rfl rfl rfl)) ?_
      refine jl rfl rfl (ltn hn rfl) (pure_build (l := [(0, .const (.int .i64 (-1))), (1, .tmp 35), (2, .tmp 40), (3, .const (.int .i64 1))]) rfl BdT.out (.one rfl rfl (.one rfl rfl (.one rfl rfl (.one rfl rfl .nil)))) rfl) ?_
      refine jl_o rfl (op_callM (callsM (PutC_spec (iniP n (cfgL n k) c) ((((c : Int), restL (ints n) (gi (cfgL n k) (c : Nat)), -1), 1) : Lk) (by omega)) (enters_cloE (args := [.tmp 41]) rfl rfl Tryz.func109 rfl rfl (evA_c rfl evA_n) (Nat.le_of_ble_eq_true rfl) rfl) rfl ⟨rfl, ⟨rfl, ⟨rfl, ⟨rfl, trivial⟩⟩⟩⟩ rfl) ⟨rfl, ⟨rfl, ⟨rfl, ⟨rfl, trivial⟩⟩⟩⟩ rfl rfl (ltn hn rfl) rfl rfl) ?_
      refine JL_nil ?_
      refine J_region ?_
      refine jl rfl rfl (ltn hn rfl) (pure_add rfl rfl rfl (by omega)) ?_
      refine jl rfl rfl (ltn hn rfl) (pure_move rfl rfl) ?_
      refine JL_nil ?_
      refine ⟨c + 1, ?_, ?_, ?_⟩
      · omega
      · omega
      ·
        refine Le_sub C _ _ ⟨rfl, ⟨rfl, ⟨rfl, ⟨rfl, ⟨rfl, ⟨rfl, ⟨(eqv rfl (vi (by omega))), trivial⟩⟩⟩⟩⟩⟩⟩ ⟨rfl, ⟨rfl, ⟨(eqv rfl (by rw [iniP_put]; rfl)), ⟨rfl, ⟨(eqv rfl (by rw [iniP_put]; rfl)), trivial⟩⟩⟩⟩⟩ rfl rfl
    ·
      refine J_exit ?_
      refine J_seq ?_
      refine J_seq ?_
      refine J_region ?_
      refine jl rfl rfl (ltn hn rfl) (pure_assign rfl rfl) ?_
      refine JL_nil ?_
      refine J_block ?_
      have hce : c = (cfgL n k).length := by omega
      refine J_loop (X := Nat × List Lk) (fun x => ⟨[(2, .box 2 0), (6, .ref [L (netW n es), LL (cfgL n k), LL ((cfgL n k).map (mvL n es (cfgL n k))), Nil]), (7, .box 1000003 0), (9, .clo 109 0 [.box 1000001 0, .box 1000003 0]), (12, I (x.1 : Nat))], [(2, .box 62 [L (netW n es)]), (1000001, .box 108 [.own 1000002 []]), (1000002, Mp (x.2.map keyK)), (1000003, .box 107 [.own 1000004 []]), (1000004, Ow 110 4 cK x.2)]⟩) (fun x => SInv n (cfgL n k).length x.1 x.2 ∧ bfsS n (cfgL n k) ((cfgL n k).map (mvL n es (cfgL n k))) ((ints n).map (ballG n es)) (((cfgL n k).length * 2 ^ n) + 1 - x.1) (ftS x.2) x.1 = bfsS n (cfgL n k) ((cfgL n k).map (mvL n es (cfgL n k))) ((ints n).map (ballG n es)) (((cfgL n k).length * 2 ^ n) + 1) (initS n (cfgL n k) (cfgL n k).length) 0) (fun x => ((cfgL n k).length * 2 ^ n) + 1 - x.1) (0, iniP n (cfgL n k) (cfgL n k).length) ?_ ?_ ?_
      · exact ⟨iniP_inv _ _ _ (Nat.le_refl _), by rw [iniP_ft]; rfl⟩
      ·
        refine Le_sub C _ _ ⟨rfl, ⟨rfl, ⟨rfl, ⟨rfl, ⟨rfl, trivial⟩⟩⟩⟩⟩ ⟨rfl, ⟨rfl, ⟨(eqv rfl (by rw [hce])), ⟨rfl, ⟨(eqv rfl (by rw [hce])), trivial⟩⟩⟩⟩⟩ rfl rfl
      ·
        intro x hR
        obtain ⟨hx2, hx3⟩ := hR
        refine J_seq ?_
        refine J_seq ?_
        refine J_region ?_
        refine jl rfl rfl (ltn hn rfl) (pure_move rfl rfl) ?_
        refine jl rfl rfl (ltn hn rfl) (p_ld_b rfl rfl rfl rfl) ?_
        refine jl rfl rfl (ltn hn rfl) (p_len_om rfl rfl rfl) ?_
        refine jl rfl rfl (ltn hn rfl) (pure_lss rfl rfl rfl) ?_
        refine jl rfl rfl (ltn hn rfl) (pure_move rfl rfl) ?_
        refine jl_split rfl rfl rfl (fun h2 => ?_) (fun h2 => ?_)
        ·
          refine jl rfl rfl (ltn hn rfl) (p_ld_b rfl rfl rfl rfl) ?_
          refine jl rfl rfl (ltn hn rfl) (pure_move rfl rfl) ?_
          refine jl rfl rfl (ltn hn rfl) (p_idx_own_m rfl rfl rfl rfl (by omega) (by omega)) ?_
          refine jl rfl rfl (ltn hn rfl) (p_fld_o rfl rfl rfl) ?_
          refine jl rfl rfl (ltn hn rfl) (p_ld_o rfl rfl rfl rfl (mget (by omega)) rfl) ?_
          refine jl rfl rfl (ltn hn rfl) (pure_leq rfl rfl rfl) ?_
          refine jl rfl rfl (ltn hn rfl) (pure_pick_t rfl rfl rfl) ?_
          refine JL_nil ?_
          refine J_cond_p rfl (fun h3 => ?_) (fun h3 => ?_)
          ·
            have hst := hx2.ok.each x.1 (by rw [List.length_map]; omega)
            rw [gi_ft (by omega)] at hst
            have hs0 := hst.p0
            have hs1 := hst.p1
            have hl5 := hx2.l5 x.1 (by omega)
            have hlen := hx2.ok.len
            rw [List.length_map] at hlen
            have hmlb : ∀ m ∈ (gi ((cfgL n k).map (mvL n es (cfgL n k))) (gi x.2 (x.1 : Nat)).1.1), 0 ≤ m ∧ m < (cfgL n k).length := by rw [gi_map (by omega)]; exact mv_bd hn8 hk (gi_memI (by omega))
            have hmlL : (gi ((cfgL n k).map (mvL n es (cfgL n k))) (gi x.2 (x.1 : Nat)).1.1).length ≤ 729 := by rw [gi_map (by omega)]; unfold mvL; rw [List.length_map]; exact (movesL_facts hn8 es (by rw [(hcm _ (gi_memI (by omega))).1]; exact hk)).1
            have hEF := fun j : Nat => expP_facts (M := (cfgL n k).length) (cfg := cfgL n k) (es := es) hx2 (by omega) (l := (gi ((cfgL n k).map (mvL n es (cfgL n k))) (gi x.2 (x.1 : Nat)).1.1).take j) (fun m hm => hmlb m (List.mem_of_mem_take hm))
            refine J_skip ?_
            refine J_seq ?_
            refine J_block ?_
            refine J_seq ?_
            refine J_region ?_
            refine jl rfl rfl (ltn hn rfl) (p_ld_b rfl rfl rfl rfl) ?_
            refine jl rfl rfl (ltn hn rfl) (pure_move rfl rfl) ?_
            refine jl rfl rfl (ltn hn rfl) (p_idx_own_m rfl rfl rfl rfl (by omega) (by omega)) ?_
            refine jl rfl rfl (ltn hn rfl) (p_ld_oa rfl rfl rfl rfl (mget (by omega)) (Nat.le_of_ble_eq_true rfl) rfl) ?_
            refine jl_o rfl (@op_alloc _ _ _ _ _ _ _ rfl ZrT.out rfl rfl (ltn hn rfl) rfl) ?_
            refine jl_o rfl (op_store_box_agg rfl rfl (by exact SzT.out) rfl rfl (by exact Nat.le_of_ble_eq_true rfl) rfl rfl) ?_
            refine JL_nil ?_
            refine J_seq ?_
            refine J_seq ?_
            refine J_region ?_
            refine jl rfl rfl (ltn hn rfl) (p_fld_b rfl rfl rfl) ?_
            refine jl rfl rfl (ltn hn rfl) (p_ld_b rfl rfl rfl rfl) ?_
            refine jl rfl rfl (ltn hn rfl) (pure_neq rfl rfl rfl) ?_
            refine JL_nil ?_
            refine J_cond_p rfl (fun h4 => ?_) (fun h4 => ?_)
            ·
              refine J_seq ?_
              refine J_seq ?_
              refine J_draw follows_mixed (by kernel_rfl) ?_
              refine jq rfl rfl (ltn hn rfl) (pure_move rfl rfl) ?_
              refine jq rfl rfl (ltn hn rfl) (pure_nilCheck_ref rfl rfl) ?_
              refine jq rfl rfl (ltn hn rfl) (p_fld rfl rfl) ?_
              refine jq rfl rfl (ltn hn rfl) (p_ld rfl rfl rfl) ?_
              refine jq rfl rfl (ltn hn rfl) (p_fld_b rfl rfl rfl) ?_
              refine jq rfl rfl (ltn hn rfl) (p_ld_b rfl rfl rfl rfl) ?_
              refine jq rfl rfl (ltn hn rfl) (p_idx rfl rfl rfl (by first | omega | (rw [List.length_map]; omega)) (mget (by first | omega | (rw [List.length_map]; omega)))) ?_
              refine jq rfl rfl (ltn hn rfl) (p_ld rfl rfl rfl) ?_
              refine jq rfl rfl (ltn hn rfl) (p_len_m rfl rfl) ?_
              refine jq rfl rfl (ltn hn rfl) (pure_move rfl rfl) ?_
              refine JQ_nil ?_
              refine J_block ?_
              refine J_loop (X := Nat) (fun j => ⟨[(2, .box 2 0), (6, .ref [L (netW n es), LL (cfgL n k), LL ((cfgL n k).map (mvL n es (cfgL n k))), Nil]), (7, .box 1000003 0), (9, .clo 109 0 [.box 1000001 0, .box 1000003 0]), (12, I (x.1 : Nat)), (13, .box 13 0), (72, L (gi ((cfgL n k).map (mvL n es (cfgL n k))) (gi x.2 (x.1 : Nat)).1.1)), (73, I ((gi ((cfgL n k).map (mvL n es (cfgL n k))) (gi x.2 (x.1 : Nat)).1.1).length : Int)), (74, I (j : Nat))], [(2, .box 62 [L (netW n es)]), (1000001, .box 108 [.own 1000002 []]), (1000002, Mp ((expP (cfgL n k) ((ints n).map (ballG n es)) x.1 x.2 ((gi ((cfgL n k).map (mvL n es (cfgL n k))) (gi x.2 (x.1 : Nat)).1.1).take j)).map keyK)), (1000003, .box 107 [.own 1000004 []]), (1000004, Ow 110 4 cK (expP (cfgL n k) ((ints n).map (ballG n es)) x.1 x.2 ((gi ((cfgL n k).map (mvL n es (cfgL n k))) (gi x.2 (x.1 : Nat)).1.1).take j))), (13, .box 110 [I (gi x.2 (x.1 : Nat)).1.2.2, I (gi x.2 (x.1 : Nat)).1.1, I (numL (gi x.2 (x.1 : Nat)).1.2.1), I (gi x.2 (x.1 : Nat)).2])]⟩) (fun j => j ≤ (gi ((cfgL n k).map (mvL n es (cfgL n k))) (gi x.2 (x.1 : Nat)).1.1).length) (fun j => (gi ((cfgL n k).map (mvL n es (cfgL n k))) (gi x.2 (x.1 : Nat)).1.1).length - j) 0 ?_ ?_ ?_
              · omega
              ·
                refine Le_sub C _ _ ⟨rfl, ⟨rfl, ⟨rfl, ⟨rfl, ⟨rfl, ⟨rfl, ⟨rfl, ⟨rfl, ⟨rfl, trivial⟩⟩⟩⟩⟩⟩⟩⟩⟩ ⟨rfl, ⟨rfl, ⟨rfl, ⟨rfl, ⟨rfl, ⟨rfl, trivial⟩⟩⟩⟩⟩⟩ rfl rfl
              ·
                intro j hj
                refine J_seq ?_
                refine J_region ?_
                refine jl rfl rfl (ltn hn rfl) (pure_lss rfl rfl rfl) ?_
                refine JL_nil ?_
                refine J_seq ?_
                refine J_cond_p rfl (fun h5 => ?_) (fun h5 => ?_)
                ·
                  have hmb := hmlb _ (gi_mem (l := (gi ((cfgL n k).map (mvL n es (cfgL n k))) (gi x.2 (x.1 : Nat)).1.1)) (i := j) (by omega))
                  have hcc := hcm _ (gi_memI (l := cfgL n k) (x := gi (gi ((cfgL n k).map (mvL n es (cfgL n k))) (gi x.2 (x.1 : Nat)).1.1) j) (by omega))
                  have hEl := (hEF j).1.ok.len
                  rw [List.length_map] at hEl
                  refine J_skip ?_
                  refine J_seq ?_
                  refine J_block ?_
                  refine J_seq ?_
                  refine J_region ?_
                  refine jl rfl rfl (ltn hn rfl) (p_idx rfl rfl rfl (by omega) (mget (by omega))) ?_
                  refine jl rfl rfl (ltn hn rfl) (p_ld rfl rfl rfl) ?_
                  refine jl rfl rfl (ltn hn rfl) (pure_assign rfl rfl) ?_
                  refine JL_nil ?_
                  refine J_mixed [1000001, 1000002, 1000003, 1000004] follows_mixed (by kernel_rfl) ?_
                  refine JD1_read 0 rfl (by kernel_rfl) (by kernel_rfl) (by kernel_rfl) rfl rfl (ltn hn rfl) (pure_move rfl rfl) rfl ?_
                  refine JD1_read 1 rfl (by kernel_rfl) (by kernel_rfl) (by kernel_rfl) rfl rfl (ltn hn rfl) (pure_move rfl rfl) rfl ?_
                  refine JD1_read 2 rfl (by kernel_rfl) (by kernel_rfl) (by kernel_rfl) rfl rfl (ltn hn rfl) (pure_move rfl rfl) rfl ?_
                  refine JD1_read 3 rfl (by kernel_rfl) (by kernel_rfl) (by kernel_rfl) rfl rfl (ltn hn rfl) (p_ld_ba rfl rfl rfl (Nat.le_of_ble_eq_true rfl) rfl) rfl ?_
                  refine JD1_read 4 rfl (by kernel_rfl) (by kernel_rfl) (by kernel_rfl) rfl rfl (ltn hn rfl) (p_fld_b rfl rfl rfl) rfl ?_
                  refine JD1_read 5 rfl (by kernel_rfl) (by kernel_rfl) (by kernel_rfl) rfl rfl (ltn hn rfl) (p_ld_b rfl rfl rfl rfl) rfl ?_
                  refine JD1_read 6 rfl (by kernel_rfl) (by kernel_rfl) (by kernel_rfl) rfl rfl (ltn hn rfl) (pure_move rfl rfl) rfl ?_
                  refine JD1_read 7 rfl (by kernel_rfl) (by kernel_rfl) (by kernel_rfl) rfl rfl (ltn hn rfl) (pure_nilCheck_ref rfl rfl) rfl ?_
                  refine JD1_read 8 rfl (by kernel_rfl) (by kernel_rfl) (by kernel_rfl) rfl rfl (ltn hn rfl) (p_fld rfl rfl) rfl ?_
                  refine JD1_read 9 rfl (by kernel_rfl) (by kernel_rfl) (by kernel_rfl) rfl rfl (ltn hn rfl) (p_ld rfl rfl rfl) rfl ?_
                  refine JD1_read 10 rfl (by kernel_rfl) (by kernel_rfl) (by kernel_rfl) rfl rfl (ltn hn rfl) (pure_move rfl rfl) rfl ?_
                  refine JD1_read 11 rfl (by kernel_rfl) (by kernel_rfl) (by kernel_rfl) rfl rfl (ltn hn rfl) (p_idx rfl rfl rfl (by omega) (mget (by omega))) rfl ?_
                  refine JD1_read 12 rfl (by kernel_rfl) (by kernel_rfl) (by kernel_rfl) rfl rfl (ltn hn rfl) (p_ld rfl rfl rfl) rfl ?_
                  refine JD1_read 14 rfl (by kernel_rfl) (by kernel_rfl) (by kernel_rfl) rfl rfl (ltn hn rfl) (p_fld_b rfl rfl rfl) rfl ?_
                  refine JD1_read 15 rfl (by kernel_rfl) (by kernel_rfl) (by kernel_rfl) rfl rfl (ltn hn rfl) (p_ld_b rfl rfl rfl rfl) rfl ?_
                  refine JD1_read 16 rfl (by kernel_rfl) (by kernel_rfl) (by kernel_rfl) rfl rfl (ltn hn rfl) (pure_add rfl rfl rfl (by omega)) rfl ?_
                  refine JD1_go ?_
                  refine JD_only 13 rfl (by kernel_rfl) rfl (@op_call _ _ _ _ _ _ [.tmp 81, .tmp 83, .tmp 90] _ _ _ _ _ (UnsafeG_spec n es (gi x.2 (x.1 : Nat)).1.2.1 (gi (cfgL n k) (gi (gi ((cfgL n k).map (mvL n es (cfgL n k))) (gi x.2 (x.1 : Nat)).1.1) (j : Nat))) hG hst.u hcc.2 (by omega)) rfl Tryz.func100 rfl rfl rfl (ltn hn rfl) ⟨rfl, rfl, ⟨rfl, rfl, ⟨rfl, rfl, trivial⟩⟩⟩ rfl rfl) rfl ?_
                  refine JD_still 17 rfl (by kernel_rfl) (by kernel_rfl) (by kernel_rfl) rfl rfl (ltn hn rfl) (pure_build (l := [(0, .tmp 79), (1, .tmp 80), (2, .tmp 91), (3, .tmp 94)]) rfl BdT.out (.one rfl rfl (.one rfl rfl (.one rfl rfl (.one rfl rfl .nil)))) rfl) ?_
                  refine JD_only 18 rfl (by kernel_rfl) rfl (op_callM (callsM (PutC_spec (expP (cfgL n k) ((ints n).map (ballG n es)) x.1 x.2 ((gi ((cfgL n k).map (mvL n es (cfgL n k))) (gi x.2 (x.1 : Nat)).1.1).take j)) (((gi (gi ((cfgL n k).map (mvL n es (cfgL n k))) (gi x.2 (x.1 : Nat)).1.1) (j : Nat), nextL ((ints n).map (ballG n es)) (gi x.2 (x.1 : Nat)).1.2.1 (gi (cfgL n k) (gi (gi ((cfgL n k).map (mvL n es (cfgL n k))) (gi x.2 (x.1 : Nat)).1.1) (j : Nat))), (x.1 : Int)), (gi x.2 (x.1 : Nat)).2 + 1) : Lk) (by omega)) (enters_cloE (args := [.tmp 95]) rfl rfl Tryz.func109 rfl rfl (evA_c rfl evA_n) (Nat.le_of_ble_eq_true rfl) rfl) rfl ⟨rfl, ⟨rfl, ⟨rfl, ⟨rfl, trivial⟩⟩⟩⟩ rfl) ⟨rfl, ⟨rfl, ⟨rfl, ⟨rfl, trivial⟩⟩⟩⟩ rfl rfl (ltn hn rfl) rfl rfl) rfl ?_
                  refine JD_done (by kernel_rfl) ?_
                  refine J_region ?_
                  refine jl rfl rfl (ltn hn rfl) (pure_add rfl rfl rfl (by omega)) ?_
                  refine jl rfl rfl (ltn hn rfl) (pure_move rfl rfl) ?_
                  refine JL_nil ?_
                  refine ⟨j + 1, ?_, ?_, ?_⟩
                  · omega
                  · omega
                  ·
                    refine Le_sub C _ _ ⟨rfl, ⟨rfl, ⟨rfl, ⟨rfl, ⟨rfl, ⟨rfl, ⟨rfl, ⟨rfl, ⟨(eqv rfl (vi (by omega))), trivial⟩⟩⟩⟩⟩⟩⟩⟩⟩ ⟨rfl, ⟨rfl, ⟨(eqv rfl (by rw [take_gi (l := (gi ((cfgL n k).map (mvL n es (cfgL n k))) (gi x.2 (x.1 : Nat)).1.1)) (i := j) (by omega)]; simp only [expP]; rw [List.foldl_append]; rfl)), ⟨rfl, ⟨(eqv rfl (by rw [take_gi (l := (gi ((cfgL n k).map (mvL n es (cfgL n k))) (gi x.2 (x.1 : Nat)).1.1)) (i := j) (by omega)]; simp only [expP]; rw [List.foldl_append]; rfl)), ⟨rfl, trivial⟩⟩⟩⟩⟩⟩ rfl rfl
                ·
                  refine J_exit ?_
                  refine J_exit ?_
                  refine J_region ?_
                  refine jl rfl rfl (ltn hn rfl) (pure_move rfl rfl) ?_
                  refine jl rfl rfl (ltn hn rfl) (pure_add rfl rfl rfl (by omega)) ?_
                  refine jl rfl rfl (ltn hn rfl) (pure_assign rfl rfl) ?_
                  refine JL_nil ?_
                  have hje : (gi ((cfgL n k).map (mvL n es (cfgL n k))) (gi x.2 (x.1 : Nat)).1.1).take j = (gi ((cfgL n k).map (mvL n es (cfgL n k))) (gi x.2 (x.1 : Nat)).1.1) := take_all (l := (gi ((cfgL n k).map (mvL n es (cfgL n k))) (gi x.2 (x.1 : Nat)).1.1)) (i := j) (by omega)
                  have hE := hEF j
                  rw [hje] at hE
                  refine ⟨(x.1 + 1, (expP (cfgL n k) ((ints n).map (ballG n es)) x.1 x.2 (gi ((cfgL n k).map (mvL n es (cfgL n k))) (gi x.2 (x.1 : Nat)).1.1))), ?_, ?_, ?_⟩
                  · exact ⟨hE.1.next (by obtain ⟨r, hr⟩ := hE.2.1; rw [hr, List.length_append]; omega), by rw [← hx3]; obtain ⟨f, hf⟩ : ∃ f, ((cfgL n k).length * 2 ^ n) + 1 - x.1 = f + 1 := ⟨((cfgL n k).length * 2 ^ n) - x.1, by omega⟩; have hf2 : ((cfgL n k).length * 2 ^ n) + 1 - (x.1 + 1) = f := (by omega); show bfsS n _ _ _ (((cfgL n k).length * 2 ^ n) + 1 - (x.1 + 1)) (ftS _) (x.1 + 1) = _; rw [hf, hf2, hE.2.2]; simp only [bfsS]; rw [if_pos (by rw [List.length_map]; omega), gi_ft (by omega), if_neg (by intro h0; exact h4 (numL_zero.2 h0))]⟩
                  · show ((cfgL n k).length * 2 ^ n) + 1 - (x.1 + 1) < ((cfgL n k).length * 2 ^ n) + 1 - x.1; omega
                  ·
                    refine Le_sub C _ _ ⟨rfl, ⟨rfl, ⟨rfl, ⟨rfl, ⟨(eqv rfl (vi (by simp))), trivial⟩⟩⟩⟩⟩ ⟨rfl, ⟨rfl, ⟨(eqv rfl (by rw [hje])), ⟨rfl, ⟨(eqv rfl (by rw [hje])), trivial⟩⟩⟩⟩⟩ rfl rfl
            ·
              refine J_skip ?_
              refine J_seq ?_
              refine J_mixed [106] follows_mixed (by kernel_rfl) ?_
              refine JD1_read 0 rfl (by kernel_rfl) (by kernel_rfl) (by kernel_rfl) rfl rfl (ltn hn rfl) (pure_move rfl rfl) rfl ?_
              refine JD1_read 1 rfl (by kernel_rfl) (by kernel_rfl) (by kernel_rfl) rfl rfl (ltn hn rfl) (pure_nilCheck_ref rfl rfl) rfl ?_
              refine JD1_read 2 rfl (by kernel_rfl) (by kernel_rfl) (by kernel_rfl) rfl rfl (ltn hn rfl) (p_fld rfl rfl) rfl ?_
              refine JD1_read 3 rfl (by kernel_rfl) (by kernel_rfl) (by kernel_rfl) rfl rfl (ltn hn rfl) (p_ld rfl rfl rfl) rfl ?_
              refine JD1_read 4 rfl (by kernel_rfl) (by kernel_rfl) (by kernel_rfl) rfl rfl (ltn hn rfl) (p_fld_b rfl rfl rfl) rfl ?_
              refine JD1_read 5 rfl (by kernel_rfl) (by kernel_rfl) (by kernel_rfl) rfl rfl (ltn hn rfl) (p_ld_b rfl rfl rfl rfl) rfl ?_
              refine JD1_read 6 rfl (by kernel_rfl) (by kernel_rfl) (by kernel_rfl) rfl rfl (ltn hn rfl) (p_idx rfl rfl rfl (by omega) (mget (by omega))) rfl ?_
              refine JD1_read 7 rfl (by kernel_rfl) (by kernel_rfl) (by kernel_rfl) rfl rfl (ltn hn rfl) (p_ld rfl rfl rfl) rfl ?_
              refine JD1_go ?_
              refine JD_only 8 rfl (by kernel_rfl) rfl (@op_lit1 _ _ _ _ _ cL _ _ _ _ _ _ _ SlT.slk rfl rfl (ltn hn rfl) rfl rfl rfl rfl rfl) rfl ?_
              refine JD_still 9 rfl (by kernel_rfl) (by kernel_rfl) (by kernel_rfl) rfl rfl (ltn hn rfl) (pure_assign rfl rfl) ?_
              refine JD_done (by kernel_rfl) ?_
              refine J_seq ?_
              refine J_block ?_
              refine J_loop (X := Nat × List (List Int)) (fun y => ⟨[(6, .ref [L (netW n es), LL (cfgL n k), LL ((cfgL n k).map (mvL n es (cfgL n k))), Nil]), (7, .box 1000003 0), (13, .box 13 0), (16, .own 106 [])], [(1000003, .box 107 [.own 1000004 []]), (1000004, Ow 110 4 cK x.2), (13, .box 110 [I (gi x.2 (y.1 : Nat)).1.2.2, I (gi x.2 (y.1 : Nat)).1.1, I (numL (gi x.2 (y.1 : Nat)).1.2.1), I (gi x.2 (y.1 : Nat)).2]), (106, Ow 37 1 cL (y.2.reverse ++ [gi (cfgL n k) (gi x.2 (y.1 : Nat)).1.1]))]⟩) (fun y => y.1 < x.2.length ∧ traceA (cfgL n k) (ftS x.2) (y.1 + 1) y.1 y.2 = traceA (cfgL n k) (ftS x.2) (x.1 + 1) x.1 [] ∧ y.2.length + y.1 ≤ x.1 ∧ ∀ z ∈ y.2, z.length < 2 ^ 40) (fun y => y.1) (x.1, []) ?_ ?_ ?_
              · exact ⟨by simp only []; omega, rfl, by simp, fun z hz => by cases hz⟩
              ·
                refine Le_sub C _ _ ⟨rfl, ⟨rfl, ⟨rfl, ⟨rfl, trivial⟩⟩⟩⟩ ⟨rfl, ⟨rfl, ⟨rfl, ⟨rfl, trivial⟩⟩⟩⟩ rfl rfl
              ·
                intro y hR
                obtain ⟨hy1, hy2, hy3, hy4⟩ := hR
                refine J_seq ?_
                refine J_seq ?_
                refine J_region ?_
                refine jl rfl rfl (ltn hn rfl) (p_fld_b rfl rfl rfl) ?_
                refine jl rfl rfl (ltn hn rfl) (p_ld_b rfl rfl rfl rfl) ?_
                refine jl rfl rfl (ltn hn rfl) (pure_geq rfl rfl rfl) ?_
                refine JL_nil ?_
                refine J_cond_p rfl (fun h6 => ?_) (fun h6 => ?_)
                ·
                  have hpz := hx2.ok.each y.1 (by rw [List.length_map]; omega)
                  rw [gi_ft hy1] at hpz
                  have hz0 := hpz.p0
                  have hz1 := hpz.p1
                  have hpl : (gi (cfgL n k) (gi x.2 (y.1 : Nat)).1.1).length < 2 ^ 40 := by rw [(hcm _ (gi_memI (by omega))).1]; omega
                  have hbe : ((((gi x.2 (y.1 : Nat)).1.2.2.toNat : Nat)) : Int) = (gi x.2 (y.1 : Nat)).1.2.2 := by omega
                  have hbb := (hx2.ok.each y.1 (by simpa using hy1)).b1
                  rw [gi_ft hy1] at hbb
                  have hnx := hx2.ok.each (gi x.2 (y.1 : Nat)).1.2.2.toNat (by rw [List.length_map]; omega)
                  rw [gi_ft (by omega), hbe] at hnx
                  have hq0 := hnx.p0
                  have hq1 := hnx.p1
                  refine J_skip ?_
                  refine J_block ?_
                  refine J_seq ?_
                  refine J_region ?_
                  refine jl rfl rfl (ltn hn rfl) (p_ld_b rfl rfl rfl rfl) ?_
                  refine jl rfl rfl (ltn hn rfl) (p_fld_b rfl rfl rfl) ?_
                  refine jl rfl rfl (ltn hn rfl) (p_ld_b rfl rfl rfl rfl) ?_
                  refine jl rfl rfl (ltn hn rfl) (p_idx_own_m rfl rfl rfl rfl (by omega) (by omega)) ?_
                  refine jl rfl rfl (ltn hn rfl) (p_ld_oa rfl rfl rfl rfl (mget (by omega)) (Nat.le_of_ble_eq_true rfl) rfl) ?_
                  refine jl_o rfl (op_store_box_agg rfl rfl (by exact SzT.out) rfl rfl (by exact Nat.le_of_ble_eq_true rfl) rfl rfl) ?_
                  refine JL_nil ?_
                  refine J_mixed [124, 106] follows_mixed (by kernel_rfl) ?_
                  refine JD1_read 0 rfl (by kernel_rfl) (by kernel_rfl) (by kernel_rfl) rfl rfl (ltn hn rfl) (pure_move rfl rfl) rfl ?_
                  refine JD1_read 1 rfl (by kernel_rfl) (by kernel_rfl) (by kernel_rfl) rfl rfl (ltn hn rfl) (pure_move rfl rfl) rfl ?_
                  refine JD1_read 2 rfl (by kernel_rfl) (by kernel_rfl) (by kernel_rfl) rfl rfl (ltn hn rfl) (pure_nilCheck_ref rfl rfl) rfl ?_
                  refine JD1_read 3 rfl (by kernel_rfl) (by kernel_rfl) (by kernel_rfl) rfl rfl (ltn hn rfl) (p_fld rfl rfl) rfl ?_
                  refine JD1_read 4 rfl (by kernel_rfl) (by kernel_rfl) (by kernel_rfl) rfl rfl (ltn hn rfl) (p_ld rfl rfl rfl) rfl ?_
                  refine JD1_read 5 rfl (by kernel_rfl) (by kernel_rfl) (by kernel_rfl) rfl rfl (ltn hn rfl) (p_fld_b rfl rfl rfl) rfl ?_
                  refine JD1_read 6 rfl (by kernel_rfl) (by kernel_rfl) (by kernel_rfl) rfl rfl (ltn hn rfl) (p_ld_b rfl rfl rfl rfl) rfl ?_
                  refine JD1_read 7 rfl (by kernel_rfl) (by kernel_rfl) (by kernel_rfl) rfl rfl (ltn hn rfl) (p_idx rfl rfl rfl (by omega) (mget (by omega))) rfl ?_
                  refine JD1_read 8 rfl (by kernel_rfl) (by kernel_rfl) (by kernel_rfl) rfl rfl (ltn hn rfl) (p_ld rfl rfl rfl) rfl ?_
                  refine JD1_go ?_
                  refine JD_only 9 rfl (by kernel_rfl) rfl (@op_lit1 _ _ _ _ _ cL _ _ _ _ _ _ _ SlT.slk rfl rfl (ltn hn rfl) rfl rfl rfl rfl rfl) rfl ?_
                  refine JD_only 10 rfl (by kernel_rfl) rfl (op_append_m SlT.slk rfl rfl (ltn hn rfl) rfl rfl (src_own_m rfl rfl) (by simp only [List.length_append, List.length_reverse, List.length_cons, List.length_nil]; omega) (by simp only [List.length_append, List.length_reverse, List.length_cons, List.length_nil]; omega)) rfl ?_
                  refine JD_still 11 rfl (by kernel_rfl) (by kernel_rfl) (by kernel_rfl) rfl rfl (ltn hn rfl) (pure_assign rfl rfl) ?_
                  refine JD_done (by kernel_rfl) ?_
                  refine ⟨((gi x.2 (y.1 : Nat)).1.2.2.toNat, [gi (cfgL n k) (gi x.2 (y.1 : Nat)).1.1] ++ y.2), ?_, ?_, ?_⟩
                  · exact ⟨by simp only []; omega, (trace_stepQ hx2.ok hy1 hbe.symm y.2).symm.trans hy2, by simp; omega, fun z hz => (List.mem_cons.1 hz).elim (fun e => e ▸ hpl) (hy4 z)⟩
                  · simp only []; omega
                  ·
                    refine Le_sub C _ _ ⟨rfl, ⟨rfl, ⟨rfl, ⟨rfl, trivial⟩⟩⟩⟩ ⟨rfl, ⟨rfl, ⟨(eqv rfl (by simp only []; rw [hbe]; rfl)), ⟨(eqv rfl (by simp only []; rw [hbe]; simp)), trivial⟩⟩⟩⟩ rfl rfl
                ·
                  have hpz := hx2.ok.each y.1 (by rw [List.length_map]; omega)
                  rw [gi_ft hy1] at hpz
                  have hz0 := hpz.p0
                  have hz1 := hpz.p1
                  have hpl : (gi (cfgL n k) (gi x.2 (y.1 : Nat)).1.1).length < 2 ^ 40 := by rw [(hcm _ (gi_memI (by omega))).1]; omega
                  have hwk : (y.2.reverse ++ [gi (cfgL n k) (gi x.2 (y.1 : Nat)).1.1]).length = y.2.length + 1 := by simp
                  have hwr : (y.2.reverse ++ [gi (cfgL n k) (gi x.2 (y.1 : Nat)).1.1]).reverse.length = y.2.length + 1 := by simp
                  have hwb : ∀ z ∈ (y.2.reverse ++ [gi (cfgL n k) (gi x.2 (y.1 : Nat)).1.1]).reverse, z.length < 2 ^ 40 := by intro z hz; rw [List.mem_reverse, List.mem_append, List.mem_reverse, List.mem_singleton] at hz; exact hz.elim (hy4 z) (fun e => e ▸ hpl)
                  refine J_exit ?_
                  refine J_seq ?_
                  refine J_region ?_
                  refine jl rfl rfl (ltn hn rfl) (pure_move rfl rfl) ?_
                  refine JL_le (Le_ren C _ 106 2000000 rfl rfl (fun _ => hfx _)) ?_
                  refine jl_o rfl (op_callM (callsM (Reverse_spec _ (by omega)) (enters_fn (args := [.tmp 126]) rfl Tryz.func110 rfl rfl ⟨rfl, trivial⟩) rfl ⟨rfl, trivial⟩ rfl) ⟨rfl, trivial⟩ rfl rfl (ltn hn rfl) rfl rfl) ?_
                  refine JL_nil ?_
                  refine J_seq ?_
                  refine J_seq ?_
                  refine J_region ?_
                  refine jl rfl rfl (ltn hn rfl) (pure_move rfl rfl) ?_
                  refine jl rfl rfl (ltn hn rfl) (p_len_om rfl rfl rfl) ?_
                  refine jl rfl rfl (ltn hn rfl) (pure_move rfl rfl) ?_
                  refine JL_nil ?_
                  refine J_block ?_
                  refine J_loop (X := Nat) (fun m => ⟨[(16, .own 2000000 []), (128, .own 2000000 []), (129, I ((y.2.reverse ++ [gi (cfgL n k) (gi x.2 (y.1 : Nat)).1.1]).reverse.length : Int)), (130, I (m : Nat))], [(2000000, Ow 37 1 cL (y.2.reverse ++ [gi (cfgL n k) (gi x.2 (y.1 : Nat)).1.1]).reverse)]⟩) (fun m => m ≤ (y.2.reverse ++ [gi (cfgL n k) (gi x.2 (y.1 : Nat)).1.1]).reverse.length) (fun m => (y.2.reverse ++ [gi (cfgL n k) (gi x.2 (y.1 : Nat)).1.1]).reverse.length - m) 0 ?_ ?_ ?_
                  · omega
                  ·
                    refine Le_sub C _ _ ⟨rfl, ⟨rfl, ⟨rfl, ⟨rfl, trivial⟩⟩⟩⟩ ⟨rfl, trivial⟩ rfl rfl
                  ·
                    intro m hm
                    refine J_seq ?_
                    refine J_region ?_
                    refine jl rfl rfl (ltn hn rfl) (pure_lss rfl rfl rfl) ?_
                    refine JL_nil ?_
                    refine J_seq ?_
                    refine J_cond_p rfl (fun h7 => ?_) (fun h7 => ?_)
                    ·
                      refine J_skip ?_
                      refine J_seq ?_
                      refine J_block ?_
                      refine J_seq ?_
                      refine J_region ?_
                      refine jl rfl rfl (ltn hn rfl) (pure_move rfl rfl) ?_
                      refine jl rfl rfl (ltn hn rfl) (p_idx_own_m rfl rfl rfl rfl (by omega) (by omega)) ?_
                      refine jl rfl rfl (ltn hn rfl) (p_ld_o rfl rfl rfl rfl (mget (by omega)) rfl) ?_
                      refine jl rfl rfl (ltn hn rfl) (pure_assign rfl rfl) ?_
                      refine jl rfl rfl (ltn hn rfl) (pure_assign rfl rfl) ?_
                      refine JL_nil ?_
                      refine J_region ?_
                      refine jl rfl rfl (ltn hn rfl) (pure_move rfl rfl) ?_
                      refine jl rfl rfl (ltn hn rfl) (pure_move rfl rfl) ?_
                      refine jl rfl rfl (ltn hn rfl) (pure_move rfl rfl) ?_
                      refine jl_o rfl (@op_call _ _ _ _ _ _ [.tmp 137] _ _ _ _ _ (Clone_spec _ (hwb _ (gi_mem (by omega)))) rfl Tryz.func85 rfl rfl rfl (ltn hn rfl) ⟨rfl, rfl, trivial⟩ rfl rfl) ?_
                      refine JL_le (Le_frz 138 rfl rfl) ?_
                      refine jl rfl rfl (ltn hn rfl) (p_idx_own_m rfl rfl rfl rfl (by omega) (by omega)) ?_
                      refine jl_o rfl (@op_store_row_m _ _ _ _ _ cL _ _ _ _ _ _ _ _ _ SzT.out rfl rfl rfl rfl rfl rfl rfl rfl (fun _ => rfl) (by omega)) ?_
                      refine JL_nil ?_
                      refine J_region ?_
                      refine jl rfl rfl (ltn hn rfl) (pure_add rfl rfl rfl (by omega)) ?_
                      refine jl rfl rfl (ltn hn rfl) (pure_move rfl rfl) ?_
                      refine JL_nil ?_
                      refine ⟨m + 1, ?_, ?_, ?_⟩
                      · omega
                      · omega
                      ·
                        refine Le_sub C _ _ ⟨rfl, ⟨rfl, ⟨rfl, ⟨(eqv rfl (vi (by omega))), trivial⟩⟩⟩⟩ ⟨(eqv rfl (by rw [set_gi (by omega)])), trivial⟩ rfl rfl
                    ·
                      refine J_exit ?_
                      refine J_seq ?_
                      refine J_region ?_
                      refine jl rfl rfl (ltn hn rfl) (pure_move rfl rfl) ?_
                      refine jl rfl rfl (ltn hn rfl) (pure_assign rfl rfl) ?_
                      refine jl rfl rfl (ltn hn rfl) (pure_assign rfl rfl) ?_
                      refine JL_nil ?_
                      refine J_ret ?_
                      have hlen2 := hx2.ok.len
                      have hw := walk_hit (es := es) (st := ftS x.2) (i := x.1) (hx3.symm.trans (by obtain ⟨f, hf⟩ : ∃ f, ((cfgL n k).length * 2 ^ n) + 1 - x.1 = f + 1 := ⟨((cfgL n k).length * 2 ^ n) - x.1, by omega⟩; rw [hf]; simp only [bfsS]; rw [if_pos (by rw [List.length_map]; omega), gi_ft (by omega), if_pos (numL_zero.1 (Decidable.not_not.1 h4))]))
                      have hsc := sc_near hw hx2 (by omega) h3 (hy2.symm.trans (trace_endQ hx2.ok hy1 h6 y.2))
                      exact Fin_two rfl (Le.trans (Le_frz 2000000 rfl rfl) (Le_sub C _ _ ⟨(eqv rfl (congrArg LL (by rw [hsc]; simp))), (eqv rfl (vb (by rw [hsc]))), trivial⟩ trivial rfl rfl)) rfl
          ·
            refine J_exit ?_
            refine J_seq ?_
            refine J_region ?_
            refine jl rfl rfl (ltn hn rfl) (pure_assign rfl rfl) ?_
            refine jl rfl rfl (ltn hn rfl) (pure_assign rfl rfl) ?_
            refine JL_nil ?_
            refine J_ret ?_
            have hsc := sc_far hG hk hx2 (by omega) (by omega) hx3
            exact Fin_two rfl (Le.trans (Le_adopt C _ 4 900 (.leaf 37 1 []) rfl rfl (.inl ⟨_, _, rfl⟩)) (Le.trans (Le_frz 900 rfl rfl) (Le_sub C _ _ ⟨(eqv rfl (by rw [hsc]; rfl)), (eqv rfl (vb (by rw [hsc]))), trivial⟩ trivial rfl rfl))) rfl
        ·
          refine jl_s rfl rfl (ltn hn rfl) ?_
          refine jl_s rfl rfl (ltn hn rfl) ?_
          refine jl_s rfl rfl (ltn hn rfl) ?_
          refine jl_s rfl rfl (ltn hn rfl) ?_
          refine jl_s rfl rfl (ltn hn rfl) ?_
          refine jl_s rfl rfl (ltn hn rfl) ?_
          refine jl rfl rfl (ltn hn rfl) (pure_pick_f rfl rfl rfl) ?_
          refine JL_nil ?_
          refine J_cond_f rfl ?_
          refine J_exit ?_
          refine J_seq ?_
          refine J_region ?_
          refine jl rfl rfl (ltn hn rfl) (pure_assign rfl rfl) ?_
          refine jl rfl rfl (ltn hn rfl) (pure_assign rfl rfl) ?_
          refine JL_nil ?_
          refine J_ret ?_
          have hsc := sc_none (es := es) (hx3.symm.trans (by obtain ⟨f, hf⟩ : ∃ f, ((cfgL n k).length * 2 ^ n) + 1 - x.1 = f + 1 := ⟨((cfgL n k).length * 2 ^ n) - x.1, by have := hx2.ok.len; rw [List.length_map] at this; have := hx2.hi; omega⟩; rw [hf]; simp only [bfsS]; rw [if_neg (by rw [List.length_map]; omega)]))
          exact Fin_two rfl (Le.trans (Le_adopt C _ 4 900 (.leaf 37 1 []) rfl rfl (.inl ⟨_, _, rfl⟩)) (Le.trans (Le_frz 900 rfl rfl) (Le_sub C _ _ ⟨(eqv rfl (by rw [hsc]; rfl)), (eqv rfl (vb (by rw [hsc]))), trivial⟩ trivial rfl rfl))) rfl
end Go.Proofs.YtmiijpobhajfmaaGreat.J
