/- Parts of a small logic over the program, and walks in it. No statement of the seat is proved in this text. -/
import Derived.Test.YtmiijpobhajfmaaGreatMC
import Derived.Test.YtmiijpobhajfmaaGreatProg
import Derived.KernelRfl
namespace Go.Proofs.YtmiijpobhajfmaaGreat.J
open Go Go.RowKit
set_option linter.unusedVariables false
set_option linter.unusedSimpArgs false

/-! ### 27. Closed facts on types -/
class SlT (P : Program) (T : TypeId) (E sz by_ : outParam Nat) : Prop where
  und : P.underlying T = some (.slice E)
  siz : (P.info? E).map (·.size) = some sz
  slk : slK P T = some (E, sz, by_)
class LdT (P : Program) (T : TypeId) (m : outParam (Option Nat)) : Prop where
  out : ldK P T = some m
class SzT (P : Program) (T : TypeId) (n : outParam Nat) : Prop where
  out : (P.info? T).map (·.size) = some n
class FdT (P : Program) (S f : Nat) (off : outParam Nat) : Prop where
  out : fldO P S f = some off
class ArT (P : Program) (T : TypeId) (n E sz : outParam Nat) : Prop where
  und : P.underlying T = some (.array n E)
  siz : (P.info? E).map (·.size) = some sz
class ZrT (P : Program) (T : TypeId) (zs : outParam (List Value)) : Prop where
  out : zeroK P T = some zs
class InT (P : Program) (T : TypeId) (k : outParam IntKind) : Prop where
  out : P.underlying T = some (.int k)
class BdT (P : Program) (T : TypeId) (zs : outParam (List Value)) (pl : outParam (List (Nat × Nat))) : Prop where
  out : bdK P T = some (zs, pl)
class BoT (P : Program) (T : TypeId) : Prop where
  out : P.underlying T = some .bool
theorem SlT.mk' {P : Program} {T E sz by_ : Nat} (h : slK P T = some (E, sz, by_)) : SlT P T E sz by_ := by
  obtain ⟨i, z, hu, hi, hz, e1, e2, e3, hp⟩ := slK_spec h
  exact ⟨hu, by rw [hi, Option.map_some, e1], h⟩

section
variable {P : Program} {C : Ctx} {k : Kt} {E : List (Nat × AV)} {O : List (Nat × Obj)} {ops : Array Oper} {o : Oper} {rest : List Oper}

/-! ### 28. One operation, states written out -/
theorem jl {rd : Option (List Nat)} {av : AV} {d : Nat} (hg : gOK ops E o = some true) (hd : o.dst = some d) (hn : d < C.n) (h : PureR P C rd o ⟨E, O⟩ av) (hr : JL P C ops k rest ⟨(d, av) :: E, O⟩) : JL P C ops k (o :: rest) ⟨E, O⟩ := JL_w hg (OpD.of_pure hd hn h).ok hr
theorem jl_s {d : Nat} (hg : gOK ops E o = some false) (hd : o.dst = some d) (hn : d < C.n) (hr : JL P C ops k rest ⟨(d, .val undef) :: E, O⟩) : JL P C ops k (o :: rest) ⟨E, O⟩ := JL_u hg hd hn hr
theorem jl_o {D : List Nat} {s' : AS} (hg : gOK ops E o = some true) (h : OpD P C D o ⟨E, O⟩ s') (hr : JL P C ops k rest s') : JL P C ops k (o :: rest) ⟨E, O⟩ := JL_w hg h.ok hr
theorem jq {rd : Option (List Nat)} {av : AV} {d : Nat} (hg : gOK ops E o = some true) (hd : o.dst = some d) (hn : d < C.n) (h : PureR P C rd o ⟨E, O⟩ av) (hr : JQ P C ops k rest ⟨(d, av) :: E, O⟩) : JQ P C ops k (o :: rest) ⟨E, O⟩ := JQ_w hg hd hn h hr
theorem jq_s {d : Nat} (hg : gOK ops E o = some false) (hd : o.dst = some d) (hn : d < C.n) (hr : JQ P C ops k rest ⟨(d, .val undef) :: E, O⟩) : JQ P C ops k (o :: rest) ⟨E, O⟩ := JQ_u hg hd hn hr
/-- A guard that is not decided: its test. -/
theorem jl_split {j t : Nat} {b : Bool} {p : Prop} [Decidable p] (hg : o.guard = some (j, b)) (ho : (ops[j]?).bind (·.dst) = some t) (hb : lk t E = some (.val (.bool (decide p))))
    (h1 : p → JL P C ops k (o :: rest) ⟨(t, .val (.bool true)) :: E, O⟩) (h2 : ¬ p → JL P C ops k (o :: rest) ⟨(t, .val (.bool false)) :: E, O⟩) : JL P C ops k (o :: rest) ⟨E, O⟩ := JL_split t hb h1 h2
theorem jq_split {j t : Nat} {b : Bool} {p : Prop} [Decidable p] (hg : o.guard = some (j, b)) (ho : (ops[j]?).bind (·.dst) = some t) (hb : lk t E = some (.val (.bool (decide p))))
    (h1 : p → JQ P C ops k (o :: rest) ⟨(t, .val (.bool true)) :: E, O⟩) (h2 : ¬ p → JQ P C ops k (o :: rest) ⟨(t, .val (.bool false)) :: E, O⟩) : JQ P C ops k (o :: rest) ⟨E, O⟩ := JQ_split t hb h1 h2
theorem jl_split_b {j t : Nat} {b q : Bool} (hg : o.guard = some (j, b)) (ho : (ops[j]?).bind (·.dst) = some t) (hb : lk t E = some (.val (.bool q)))
    (h1 : q = true → JL P C ops k (o :: rest) ⟨(t, .val (.bool true)) :: E, O⟩) (h2 : q = false → JL P C ops k (o :: rest) ⟨(t, .val (.bool false)) :: E, O⟩) : JL P C ops k (o :: rest) ⟨E, O⟩ :=
  JL_split (p := q = true) t (by rw [hb]; congr 3; cases q <;> rfl) h1 (fun h => h2 (by simpa using h))
theorem jq_split_b {j t : Nat} {b q : Bool} (hg : o.guard = some (j, b)) (ho : (ops[j]?).bind (·.dst) = some t) (hb : lk t E = some (.val (.bool q)))
    (h1 : q = true → JQ P C ops k (o :: rest) ⟨(t, .val (.bool true)) :: E, O⟩) (h2 : q = false → JQ P C ops k (o :: rest) ⟨(t, .val (.bool false)) :: E, O⟩) : JQ P C ops k (o :: rest) ⟨E, O⟩ :=
  JQ_split (p := q = true) t (by rw [hb]; congr 3; cases q <;> rfl) h1 (fun h => h2 (by simpa using h))

/-! ### 29. Operations with their types' facts -/
variable {s : AS}
theorem p_len {x : Operand} {T E' sz by_ sz' : Nat} {xs : List (List AV)} [t : SlT P T E' sz by_] (ho : o.op = .call { callee := .builtin .len, args := #[x], argTypes := #[T] }) (hx : ev s x = some (.sl sz' xs)) : PureOp P C o s (.val (.int .i64 xs.length)) := pure_len ho t.und hx
theorem p_len_nil {x : Operand} {T E' sz by_ : Nat} [t : SlT P T E' sz by_] (ho : o.op = .call { callee := .builtin .len, args := #[x], argTypes := #[T] }) (hx : ev s x = some (.val (.slice none 0 0))) : PureOp P C o s (.val (.int .i64 0)) := fun ψ φ a w hF =>
  ⟨_, fun w1 _ => by simp [execOp, ho, resolve, invoke, builtin, Builtin.len_, run_underlying t.und, hF.ev_val hx, goInt], .ro (.val _)⟩
theorem p_len_own {x : Operand} {T E' sz by_ i : Nat} {p : List Nat} {tr t' : Tr} {n : Int} [t : SlT P T E' sz by_] (ho : o.op = .call { callee := .builtin .len, args := #[x], argTypes := #[T] }) (hx : ev s x = some (.own i p)) (hi : lk i s.objs = some (.tree tr)) (hp : tr.get p = some t') (hl : (t'.len : Int) = n) : PureOp P C o s (.val (.int .i64 n)) := by
  subst hl
  exact pure_len_own ho t.und hx hi hp
theorem p_idx {T E' sz by_ : Nat} {x y : Operand} {ik : IntKind} {i : Int} {xs : List (List AV)} {e : List AV} [t : SlT P T E' sz by_] (ho : o.op = .indexAddr T x y) (hx : ev s x = some (.sl sz xs)) (hy : ev s y = some (.val (.int ik i))) (h0 : 0 ≤ i) (he : xs[i.toNat]? = some e) : PureOp P C o s (.ref e) := pure_index_sl ho t.und t.siz hx hy h0 he
theorem p_idx_own {T E' sz by_ i' : Nat} {p : List Nat} {tr t' : Tr} {x y : Operand} {ik : IntKind} {i : Int} [t : SlT P T E' sz by_] (ho : o.op = .indexAddr T x y) (hx : ev s x = some (.own i' p)) (hi : lk i' s.objs = some (.tree tr)) (hp : tr.get p = some t') (hy : ev s y = some (.val (.int ik i))) (h0 : 0 ≤ i) (h1 : i < t'.len) (hrow : t'.row = true := by exact rfl) : PureOp P C o s (.oref i' p sz i.toNat 0) := pure_index_own ho t.und t.siz hx hi hp hy h0 h1 hrow
theorem p_idx_ar {T n E' sz m : Nat} {x y : Operand} {ik : IntKind} {i : Int} {cs : List AV} [t : ArT P T n E' sz] (ho : o.op = .indexAddr T x y) (hx : ev s x = some (.ref cs)) (hy : ev s y = some (.val (.int ik i))) (h0 : 0 ≤ i) (h1 : i < n) (hm : i.toNat * sz = m) : PureOp P C o s (.ref (cs.drop m)) := by subst hm; exact pure_index_arr_ref ho t.und t.siz hx hy h0 h1
theorem p_idx_ab {T n E' sz b off m : Nat} {x y : Operand} {ik : IntKind} {i : Int} [t : ArT P T n E' sz] (ho : o.op = .indexAddr T x y) (hx : ev s x = some (.box b off)) (hy : ev s y = some (.val (.int ik i))) (h0 : 0 ≤ i) (h1 : i < n) (hm : off + i.toNat * sz = m) : PureOp P C o s (.box b m) := by subst hm; exact pure_index_arr_box ho t.und t.siz hx hy h0 h1
theorem p_idx_ao {T n E' sz b zs j c m : Nat} {p : List Nat} {x y : Operand} {ik : IntKind} {i : Int} [t : ArT P T n E' sz] (ho : o.op = .indexAddr T x y) (hx : ev s x = some (.oref b p zs j c)) (hy : ev s y = some (.val (.int ik i))) (h0 : 0 ≤ i) (h1 : i < n) (hm : c + i.toNat * sz = m) : PureOp P C o s (.oref b p zs j m) := by subst hm; exact pure_index_arr_oref ho t.und t.siz hx hy h0 h1
theorem p_fld {S f off : Nat} {x : Operand} {cs : List AV} [t : FdT P S f off] (ho : o.op = .fieldAddr S x f) (hx : ev s x = some (.ref cs)) : PureOp P C o s (.ref (cs.drop off)) := pure_field_ref ho t.out hx
theorem p_fld_b {S f off b o0 m : Nat} {x : Operand} [t : FdT P S f off] (ho : o.op = .fieldAddr S x f) (hx : ev s x = some (.box b o0)) (hm : o0 + off = m) : PureOp P C o s (.box b m) := by subst hm; exact pure_field_box ho t.out hx
theorem p_fld_o {S f off b zs j c m : Nat} {p : List Nat} {x : Operand} [t : FdT P S f off] (ho : o.op = .fieldAddr S x f) (hx : ev s x = some (.oref b p zs j c)) (hm : c + off = m) : PureOp P C o s (.oref b p zs j m) := by subst hm; exact pure_field_oref ho t.out hx
theorem p_ld {T : Nat} {x : Operand} {cs : List AV} {av : AV} [t : LdT P T none] (ho : o.op = .load T x) (hx : ev s x = some (.ref cs)) (h0 : cs[0]? = some av) : PureR P C (some []) o s av := pure_load_ref ho t.out hx h0
theorem p_ld_a {T m : Nat} {x : Operand} {cs cs' : List AV} [t : LdT P T (some m)] (ho : o.op = .load T x) (hx : ev s x = some (.ref cs)) (hm : m ≤ cs.length) (hc : cs.take m = cs') : PureR P C (some []) o s (.agg cs') := by subst hc; exact pure_load_ref_agg ho t.out hx hm
theorem p_ld_b {T T0 i off : Nat} {x : Operand} {cs : List AV} {av : AV} [t : LdT P T none] (ho : o.op = .load T x) (hx : ev s x = some (.box i off)) (hi : lk i s.objs = some (.box T0 cs)) (h0 : cs[off]? = some av) : PureR P C (some [i]) o s av := pure_load_box ho t.out hx hi h0
theorem p_ld_ba {T T0 i off m : Nat} {x : Operand} {cs cs' : List AV} [t : LdT P T (some m)] (ho : o.op = .load T x) (hx : ev s x = some (.box i off)) (hi : lk i s.objs = some (.box T0 cs)) (hm : off + m ≤ cs.length) (hc : (cs.drop off).take m = cs') : PureR P C (some [i]) o s (.agg cs') := by subst hc; exact pure_load_box_agg ho t.out hx hi hm
theorem p_ld_o {T i e sz j c : Nat} {p : List Nat} {tr : Tr} {x : Operand} {xs : List (List AV)} {y : List AV} {av : AV} [t : LdT P T none] (ho : o.op = .load T x) (hx : ev s x = some (.oref i p sz j c)) (hi : lk i s.objs = some (.tree tr)) (hp : tr.get p = some (.leaf e sz xs)) (hy : xs[j]? = some y) (hc : y[c]? = some av) : PureR P C (some [i]) o s av := pure_load_oref ho t.out hx hi hp hy hc
theorem p_ld_oa {T i e sz j c m : Nat} {p : List Nat} {tr : Tr} {x : Operand} {xs : List (List AV)} {y cs' : List AV} [t : LdT P T (some m)] (ho : o.op = .load T x) (hx : ev s x = some (.oref i p sz j c)) (hi : lk i s.objs = some (.tree tr)) (hp : tr.get p = some (.leaf e sz xs)) (hy : xs[j]? = some y) (hm : c + m ≤ y.length) (hc : (y.drop c).take m = cs') : PureR P C (some [i]) o s (.agg cs') := by subst hc; exact pure_load_oref_agg ho t.out hx hi hp hy hm
theorem p_ld_n {T i e j : Nat} {p p' : List Nat} {tr t' : Tr} {x : Operand} {ts : List Tr} [t : LdT P T none] (ho : o.op = .load T x) (hx : ev s x = some (.oref i p 1 j 0)) (hi : lk i s.objs = some (.tree tr)) (hp : tr.get p = some (.node e ts)) (hj : ts[j]? = some t') (hpp : p ++ [j] = p') : PureR P C (some [i]) o s (.own i p') := by subst hpp; exact pure_load_node ho t.out hx hi hp hj
theorem p_slice {T E' sz by_ : Nat} {x : Operand} {lo hi : Option Operand} {xs : List (List AV)} {l h : Int} [t : SlT P T E' sz by_] (ho : o.op = .slice T x lo hi none) (hx : ev s x = some (.sl sz xs)) (hlo : bnd s 0 lo = some l) (hhi : bnd s xs.length hi = some h) (h0 : 0 ≤ l) (h1 : l ≤ h) (h2 : h ≤ xs.length) : PureOp P C o s (.sl sz ((xs.take h.toNat).drop l.toNat)) := pure_slice ho t.und t.siz hx hlo hhi h0 h1 h2

/-! ### 30. More numbers -/
theorem p_bits {op : BinOp} {x y : Operand} {xt yt : TypeId} {ik : IntKind} {p q r : Int} (ho : o.op = .binOp op xt x y yt) (hop : op = .and ∨ op = .or ∨ op = .xor ∨ op = .andNot) (hx : ev s x = some (.val (.int ik p))) (hy : ev s y = some (.val (.int ik q))) (hr : bits op ik p q = r) : PureOp P C o s (.val (.int ik r)) := by
  subst hr
  exact pure_bin ho hx hy (fun w => by rcases hop with rfl | rfl | rfl | rfl <;> simp [binOp, Op.intBits, bits])
theorem p_shl {x y : Operand} {xt yt : TypeId} {ik yk : IntKind} {p q : Int} (ho : o.op = .binOp .shl xt x y yt) (hx : ev s x = some (.val (.int ik p))) (hy : ev s y = some (.val (.int yk q))) (h0 : 0 ≤ q) : PureOp P C o s (.val (.int ik (ik.wrap (p * 2 ^ min q.toNat ik.bits)))) := fun ψ φ a w hF =>
  ⟨_, fun w1 _ => by simp [execOp, ho, hF.ev_val hx, hF.ev_val hy, eqGuard, binOp, Op.shift, show ¬ q < 0 by omega], .ro (.val _)⟩
theorem p_shr {x y : Operand} {xt yt : TypeId} {ik yk : IntKind} {p q : Int} (ho : o.op = .binOp .shr xt x y yt) (hx : ev s x = some (.val (.int ik p))) (hy : ev s y = some (.val (.int yk q))) (h0 : 0 ≤ q) : PureOp P C o s (.val (.int ik (p / 2 ^ min q.toNat ik.bits))) := fun ψ φ a w hF =>
  ⟨_, fun w1 _ => by
    have e : p.fdiv (2 ^ min q.toNat ik.bits) = p / 2 ^ min q.toNat ik.bits := Int.fdiv_eq_ediv_of_nonneg _ (Int.le_of_lt (Int.pow_pos (by omega)))
    simp [execOp, ho, hF.ev_val hx, hF.ev_val hy, eqGuard, binOp, Op.shift, show ¬ q < 0 by omega, e], .ro (.val _)⟩
theorem p_neg {x : Operand} {xt : TypeId} {p : Int} (ho : o.op = .unOp .neg xt x) (hx : ev s x = some (.val (.int .i64 p))) (h : -9223372036854775807 ≤ p ∧ p ≤ 9223372036854775807) : PureOp P C o s (.val (.int .i64 (-p))) := fun ψ φ a w hF =>
  ⟨_, fun w1 _ => by simp [execOp, ho, hF.ev_val hx, Op.unary, Op.intArith, wrap_id (n := -p) (by omega)], .ro (.val _)⟩
theorem p_conv {x : Operand} {src dst : TypeId} {ik k' : IntKind} {p : Int} [t1 : InT P src k'] [t2 : InT P dst ik] (ho : o.op = .convert src dst x) (hx : ev s x = some (.val (.int k' p))) : PureOp P C o s (.val (.int ik (ik.wrap p))) := fun ψ φ a w hF =>
  ⟨_, fun w1 _ => by simp [execOp, ho, hF.ev_val hx, convert, run_underlying t1.out, run_underlying t2.out, Conv.intToInt], .ro (.val _)⟩
theorem p_extract {x : Operand} {j : Nat} {vs : List AV} {av : AV} (ho : o.op = .extract x j) (hx : ev s x = some (.tup vs)) (hj : vs[j]? = some av) : PureOp P C o s av := fun ψ φ a w hF => by
  obtain ⟨us, e, hs, hr⟩ := (hF.ev hx).tup_inv
  have hjl : j < us.size := by rw [hs]; exact (List.getElem?_eq_some_iff.1 hj).1
  exact ⟨us[j], fun w1 _ => by simp [execOp, ho, e, Instr.extract, hjl], hr j av _ hj (Array.getElem?_eq_getElem hjl)⟩
theorem equalIn_b {xt : TypeId} (hu : P.underlying xt = some .bool) (p q : Bool) (w : World) (d : Nat) : (Op.equalIn (d + 1) xt (.bool p) (.bool q)).run P w = .ok (p == q) w := by
  simp [Op.equalIn, run_underlying hu]
theorem run_eqb {xt : TypeId} (hu : P.underlying xt = some .bool) (p q : Bool) (w : World) : (binOp .eql xt (.bool p) (.bool q)).run P w = .ok (.bool (p == q)) w := by
  have h : (Op.equal xt (.bool p) (.bool q)).run P w = .ok (p == q) w := equalIn_b hu p q w 9999
  simp [binOp, h]
theorem run_neb {xt : TypeId} (hu : P.underlying xt = some .bool) (p q : Bool) (w : World) : (binOp .neq xt (.bool p) (.bool q)).run P w = .ok (.bool (!(p == q))) w := by
  have h : (Op.equal xt (.bool p) (.bool q)).run P w = .ok (p == q) w := equalIn_b hu p q w 9999
  simp [binOp, h]
theorem p_eql_b {x y : Operand} {xt yt : TypeId} {p q : Bool} [t : BoT P xt] (ho : o.op = .binOp .eql xt x y yt) (hx : ev s x = some (.val (.bool p))) (hy : ev s y = some (.val (.bool q))) : PureOp P C o s (.val (.bool (p == q))) :=
  fun ψ φ a w hF => ⟨_, fun w1 _ => by
    have hg : (eqGuard .eql xt x y (.bool p) (.bool q)).run P w1 = .ok () w1 := rfl
    simp [execOp, ho, hF.ev_val hx, hF.ev_val hy, hg, run_eqb t.out], .ro (.val _)⟩
theorem p_neq_b {x y : Operand} {xt yt : TypeId} {p q : Bool} [t : BoT P xt] (ho : o.op = .binOp .neq xt x y yt) (hx : ev s x = some (.val (.bool p))) (hy : ev s y = some (.val (.bool q))) : PureOp P C o s (.val (.bool (!(p == q)))) :=
  fun ψ φ a w hF => ⟨_, fun w1 _ => by
    have hg : (eqGuard .neq xt x y (.bool p) (.bool q)).run P w1 = .ok () w1 := rfl
    simp [execOp, ho, hF.ev_val hx, hF.ev_val hy, hg, run_neb t.out], .ro (.val _)⟩
end
end Go.Proofs.YtmiijpobhajfmaaGreat.J
namespace Go.Proofs.YtmiijpobhajfmaaGreat.J
open Go Go.RowKit
set_option linter.unusedVariables false
set_option linter.unusedSimpArgs false

/-! ### 31. Orders -/
section
variable {P : Program} {ops : Array Oper} {md : Region.Mode} {Cls : World → Prop}
def opC (P : Program) (ops : Array Oper) (Cls : World → Prop) (i : Nat) (K : Act → World → Prop) (a : Act) (w : World) : Prop :=
  match ops[i]? with
  | none => K a w
  | some o => if Region.wanted o (yielded ops a.tmps) then o.wp P a w (fun a' w' => (Cls w → Cls w') ∧ K a' w') (fun _ _ _ => False) else K (a.put o.dst undef) w
def wpAnyC (P : Program) (md : Region.Mode) (ops : Array Oper) (Cls : World → Prop) (Q : Exit → Act → World → Prop) : Nat → Array Bool → Act → World → Prop
  | 0, listed, a, w => Region.ready md ops listed = [] ∧ Q .normal a w
  | fuel + 1, listed, a, w => (Region.ready md ops listed = [] → Q .normal a w) ∧ ∀ i ∈ Region.ready md ops listed, opC P ops Cls i (wpAnyC P md ops Cls Q fuel (listed.setIfInBounds i true)) a w

theorem opC_mono {i : Nat} {K K' : Act → World → Prop} {a : Act} {w : World} (h : opC P ops Cls i K a w) (hK : ∀ a w, K a w → K' a w) : opC P ops Cls i K' a w := by
  unfold opC at *
  split
  · rename_i ho; simp only [ho] at h; exact hK _ _ h
  · rename_i o ho
    simp only [ho] at h
    split
    · rename_i hw; simp only [hw, if_true] at h; exact upon_mono h (fun _ _ q => ⟨q.1, hK _ _ q.2⟩)
    · rename_i hw; simp only [hw] at h; exact hK _ _ h
theorem wpAny_of_C {Q : Exit → Act → World → Prop} : ∀ (fuel : Nat) (listed : Array Bool) (a : Act) (w : World), wpAnyC P md ops Cls Q fuel listed a w → wpAny P md ops Q fuel listed a w
  | 0, _, _, _, h => h
  | fuel + 1, _, _, _, h => ⟨h.1, fun i hi => by
    have hh := h.2 i hi
    unfold opC at hh
    unfold wpOp
    split
    · rename_i ho; simp only [ho] at hh; exact wpAny_of_C fuel _ _ _ hh
    · rename_i o ho
      simp only [ho] at hh
      split
      · rename_i hw; simp only [hw, if_true] at hh; exact .inl (upon_mono hh (fun _ _ q => wpAny_of_C fuel _ _ _ q.2))
      · rename_i hw; simp only [hw] at hh; exact wpAny_of_C fuel _ _ _ hh⟩

def YieldsC (P : Program) (ops : Array Oper) (Cls : World → Prop) (o : Oper) (v : Value) (a : Act) : Prop :=
  (Region.wanted o (yielded ops a.tmps) = true ∧ ∀ w, Cls w → (execOp a.eval o).run P w = .ok (.value v) w) ∨ (Region.wanted o (yielded ops a.tmps) = false ∧ v = undef)
theorem YieldsC.of_same {o : Oper} {v : Value} {a a' : Act} (hy : YieldsC P ops Cls o v a) (he : execOp a'.eval o = execOp a.eval o) (hw : Region.wanted o (yielded ops a'.tmps) = Region.wanted o (yielded ops a.tmps)) : YieldsC P ops Cls o v a' := by
  unfold YieldsC at *
  rw [he, hw]
  exact hy
theorem YieldsC.opC {i : Nat} {o : Oper} {v : Value} {a : Act} {w : World} (hi : ops[i]? = some o) (hc : Cls w) (hy : YieldsC P ops Cls o v a) {K : Act → World → Prop} (h : K (a.put o.dst v) w) : opC P ops Cls i K a w := by
  unfold J.opC
  simp only [hi]
  rcases hy with ⟨hw, hv⟩ | ⟨hw, rfl⟩
  · simp only [hw, if_true]
    unfold Oper.wp
    rw [hv w hc, Oper.upon_value]
    exact ⟨fun h => h, h⟩
  · simp only [hw, Bool.false_eq_true, if_false]; exact h
theorem wp_put {oi oj : Oper} {v : Value} {a : Act} {w : World} {N N' : Act → World → Prop} (he : execOp (a.put oi.dst v).eval oj = execOp a.eval oj) (h : oj.wp P (a.put oi.dst v) w N (fun _ _ _ => False))
    (hN : ∀ dl u w', N (({ a with defers := dl }.put oi.dst v).put oj.dst u) w' → N' ({ a with defers := dl }.put oj.dst u) w') : oj.wp P a w N' (fun _ _ _ => False) := by
  have hp : ∀ dl, { a.put oi.dst v with defers := dl } = { a with defers := dl }.put oi.dst v := fun dl => by cases oi.dst <;> rfl
  have h0 : (a.put oi.dst v).defers = a.defers := by cases oi.dst <;> rfl
  unfold Oper.wp at *
  rw [he] at h
  generalize (execOp a.eval oj).run P w = r at *
  cases r with
  | ok n w' =>
    cases n with
    | value u => exact hN a.defers u w' h
    | skip => exact hN a.defers undef w' h
    | defer d =>
      refine hN (d :: a.defers) undef w' ?_
      have h1 : N ({ a.put oi.dst v with defers := d :: (a.put oi.dst v).defers }.put oj.dst undef) w' := h
      rwa [h0, hp] at h1
    | enter f args =>
      refine Calls.mono h (fun e w'' q => ?_)
      cases e with
      | returned u => exact hN a.defers u w'' q
      | panicked c => exact q.elim
      | outgrown => obtain ⟨_, _, hf⟩ := q; exact hf.elim
    | row r args => exact Rows.mono h (fun u w'' q => hN a.defers u w'' q)
    | _ => exact h.elim
  | halt x w' =>
    cases x with
    | panic u => exact h.elim
    | _ => exact h.elim
theorem opC_put {j : Nat} {oi oj : Oper} {v : Value} (hj : ops[j]? = some oj) (hap : oi.apart ops oj = true) (hsi : ∀ cs b, oi.op ≠ .select cs b) (hsj : ∀ cs b, oj.op ≠ .select cs b) {K : Act → World → Prop} {a : Act} {w : World} (hc : Cls w)
    (hy : YieldsC P ops Cls oi v a) (h : opC P ops Cls j K (a.put oi.dst v) w) : opC P ops Cls j (fun a' w' => Cls w' ∧ YieldsC P ops Cls oi v a' ∧ K (a'.put oi.dst v) w') a w := by
  obtain ⟨h1, h2, h3⟩ := Oper.apart_spec hap
  have keep : ∀ (dl : List Deferred) u, YieldsC P ops Cls oi v ({ a with defers := dl }.put oj.dst u) := fun dl u =>
    (show YieldsC P ops Cls oi v { a with defers := dl } from hy).of_same (execOp_put oi hsi { a with defers := dl } oj.dst u h3) (wanted_put oi { a with defers := dl } oj.dst u h3)
  unfold J.opC at *
  simp only [hj] at *
  rw [wanted_put oj a oi.dst v h1] at h
  split
  · rename_i hw
    simp only [hw, if_true] at h
    refine wp_put (execOp_put oj hsj a oi.dst v h1) h (fun dl u w' q => ⟨q.1, q.1 hc, keep dl u, ?_⟩)
    rw [← Act.put_comm { a with defers := dl } v u h2]
    exact q.2
  · rename_i hw
    simp only [hw] at h
    exact ⟨hc, keep a.defers undef, by rw [← Act.put_comm a v undef h2]; exact h⟩
theorem wpAnyC_first {Q : Exit → Act → World → Prop} {i : Nat} {oi : Oper} {v : Value} (hi : ops[i]? = some oi) (hsel : ∀ (j : Nat) (o : Oper) cs b, ops[j]? = some o → o.op ≠ .select cs b) :
    ∀ (fuel : Nat) (listed : Array Bool) (a : Act) (w : World), Cls w →
      (∀ j oj, ops[j]? = some oj → j ≠ i → listed.getD j true = false → (∀ e ∈ oj.after, Region.binds md e = true → e.on ≠ i) → oi.apart ops oj = true) →
      i ∈ Region.ready md ops listed → YieldsC P ops Cls oi v a →
      wpAnyC P md ops Cls Q fuel (listed.setIfInBounds i true) (a.put oi.dst v) w → wpAnyC P md ops Cls Q (fuel + 1) listed a w := by
  intro fuel
  induction fuel with
  | zero =>
    intro listed a w hc _ hr hy H
    refine ⟨fun h => (by rw [h] at hr; cases hr), fun j hj => ?_⟩
    by_cases hji : j = i
    · subst hji; exact hy.opC hi hc H
    · have := ready_mono hj hji
      rw [H.1] at this
      cases this
  | succ fuel ih =>
    intro listed a w hc hfree hr hy H
    refine ⟨fun h => (by rw [h] at hr; cases hr), fun j hj => ?_⟩
    by_cases hji : j = i
    · subst hji; exact hy.opC hi hc H
    · have h1 := H.2 j (ready_mono hj hji)
      obtain ⟨hjun, oj, hoj, hall⟩ := mem_ready.1 hj
      have hnot : ∀ e ∈ oj.after, Region.binds md e = true → e.on ≠ i := fun e he hb heq => by
        have h1 := hall e he hb
        have h0 := (mem_ready.1 hr).1
        rw [heq] at h1
        rcases Nat.lt_or_ge i listed.size with h' | h'
        · simp [h'] at h0 h1; rw [h0] at h1; cases h1
        · simp [Array.getElem?_eq_none h'] at h1
      have h2 := opC_put hoj (hfree j oj hoj hji hjun hnot) (fun cs b => hsel i oi cs b hi) (fun cs b => hsel j oj cs b hoj) hc hy h1
      have hfree' : ∀ k ok, ops[k]? = some ok → k ≠ i → (listed.setIfInBounds j true).getD k true = false →
          (∀ e ∈ ok.after, Region.binds md e = true → e.on ≠ i) → oi.apart ops ok = true := fun k ok hk hki hun hno => by
        refine hfree k ok hk hki ?_ hno
        by_cases hjk : j = k
        · subst hjk; exact hjun
        · rw [getD_set_ne true hjk] at hun; exact hun
      refine opC_mono h2 (fun a' w' h3 => ih (listed.setIfInBounds j true) a' w' h3.1 hfree' (ready_mono hr (Ne.symm hji)) h3.2.1 ?_)
      rw [Array.setIfInBounds_comm _ _ hji]
      exact h3.2.2
end

/-! ### 32. The judgements -/
def ld (n : Nat) : List Nat → Array Bool
  | [] => Array.replicate n false
  | i :: L => (ld n L).setIfInBounds i true
/-- Before anything is changed. -/
def JD1 (P : Program) (C : Ctx) (ops : Array Oper) (k : Kt) (M : List Nat) (fuel n : Nat) (L : List Nat) (s : AS) : Prop := ∀ ψ φ a w, SimF C ψ φ s a w → wpAnyC P .any ops (fun w1 => Ch w w1 (inD ψ s.objs M)) (lift C k) fuel (ld n L) a w
def JD (P : Program) (C : Ctx) (ops : Array Oper) (k : Kt) (M : List Nat) (fuel n : Nat) (L : List Nat) (s : AS) : Prop := ∀ (w0 : World) (X : Nat → Prop) ψ φ a w, SimF C ψ φ s a w → Ch w0 w X → (∀ k, inD ψ s.objs M k → X k ∨ w0.heap.size ≤ k) → wpAnyC P .any ops (fun w1 => Ch w0 w1 X) (lift C k) fuel (ld n L) a w
section
variable {P : Program} {C : Ctx} {ops : Array Oper} {k : Kt} {M : List Nat} {fuel n : Nat} {L : List Nat} {E : List (Nat × AV)} {O : List (Nat × Obj)}
theorem J_mixed {id : Nat} {l : List Oper} (M : List Nat) (hm : P.follows .mixedOrders = true) (hs : Region.noSelect l.toArray = true) (h : JD1 P C l.toArray k M l.length l.length [] ⟨E, O⟩) : J P C k (.region id l.toArray true) ⟨E, O⟩ := fun a w ⟨ψ, φ, hF⟩ => by
  have hb : Below w.heap.size w { w with drawn := w.drawn + 1 } := (Below.refl _ w).drew
  have h1 := h ψ φ a _ (hF.ext hb)
  refine wp_region_any hm ?_
  have h2 := wpAny_of_C _ _ _ _ h1
  simpa [ld] using h2
theorem JD1_read {d : Nat} {o : Oper} {rd : Option (List Nat)} {av : AV} (i : Nat) (hi : ops[i]? = some o) (hs : Region.noSelect ops = true) (hr : (Region.ready .any ops (ld n L)).elem i = true) (hf : Region.free .any ops (ld n L) i = true) (hg : gOK ops E o = some true)
    (hd : o.dst = some d) (hn : d < C.n) (h : PureR P C rd o ⟨E, O⟩ av) (hM : (rd.getD []).all (fun x => !M.elem x) = true) (hk : JD1 P C ops k M fuel n (i :: L) ⟨(d, av) :: E, O⟩) : JD1 P C ops k M (fuel + 1) n L ⟨E, O⟩ := fun ψ φ a w hF => by
  obtain ⟨v, hv, hrep⟩ := h ψ φ a w hF
  refine wpAnyC_first hi (Region.noSelect_spec hs) fuel _ a w (Ch.refl _ _) (Region.free_spec hi hf) (by simpa using hr) (v := v) (.inl ⟨wanted_of hF hg, fun w1 hc => hv w1 (fun l hl q hq ho => hc.block q hq (fun hin => ?_))⟩) ?_
  · obtain ⟨d1, o1, hd1, hl1, hq1⟩ := hin
    rcases ho with ho | ⟨d2, o2, hd2, hl2, hq2⟩
    · exact ho.2.2 d1 o1 hl1 hq1
    · obtain rfl := hF.hp.disj d1 d2 o1 o2 q hl1 hl2 hq1 hq2
      subst hl
      simp only [Option.getD_some, List.all_eq_true] at hM
      have := hM d1 hd2
      simp at this
      exact this hd1
  · rw [hd]
    exact hk ψ φ _ w (hF.put d av v hn hrep)
theorem JD1_skip {d : Nat} {o : Oper} (i : Nat) (hi : ops[i]? = some o) (hs : Region.noSelect ops = true) (hr : (Region.ready .any ops (ld n L)).elem i = true) (hf : Region.free .any ops (ld n L) i = true) (hg : gOK ops E o = some false)
    (hd : o.dst = some d) (hn : d < C.n) (hk : JD1 P C ops k M fuel n (i :: L) ⟨(d, .val undef) :: E, O⟩) : JD1 P C ops k M (fuel + 1) n L ⟨E, O⟩ := fun ψ φ a w hF => by
  refine wpAnyC_first hi (Region.noSelect_spec hs) fuel _ a w (Ch.refl _ _) (Region.free_spec hi hf) (by simpa using hr) (v := undef) (.inr ⟨wanted_of hF hg, rfl⟩) ?_
  rw [hd]
  exact hk ψ φ _ w (hF.put d (.val undef) undef hn (.ro (.val _)))
theorem JD1_go (h : JD P C ops k M fuel n L ⟨E, O⟩) : JD1 P C ops k M fuel n L ⟨E, O⟩ := fun ψ φ a w hF => h w (inD ψ O M) ψ φ a w hF (Ch.refl _ _) (fun k hk => .inl hk)
theorem JD_still {d : Nat} {o : Oper} {av : AV} (i : Nat) (hi : ops[i]? = some o) (hs : Region.noSelect ops = true) (hr : (Region.ready .any ops (ld n L)).elem i = true) (hf : Region.free .any ops (ld n L) i = true) (hg : gOK ops E o = some true)
    (hd : o.dst = some d) (hn : d < C.n) (h : PureR P C none o ⟨E, O⟩ av) (hk : JD P C ops k M fuel n (i :: L) ⟨(d, av) :: E, O⟩) : JD P C ops k M (fuel + 1) n L ⟨E, O⟩ := fun w0 X ψ φ a w hF hc hX => by
  obtain ⟨v, hv, hrep⟩ := h ψ φ a w hF
  refine wpAnyC_first hi (Region.noSelect_spec hs) fuel _ a w hc (Region.free_spec hi hf) (by simpa using hr) (v := v) (.inl ⟨wanted_of hF hg, fun w1 _ => hv w1 (fun l hl => by cases hl)⟩) ?_
  rw [hd]
  exact hk w0 X ψ φ _ w (hF.put d av v hn hrep) hc hX
theorem opC_of {D : List Nat} {o : Oper} {s' : AS} {i : Nat} (hi : ops[i]? = some o) (hg : gOK ops E o = some true) (h : OpD P C D o ⟨E, O⟩ s') (hD : D.all (fun x => M.elem x) = true) (hk : JD P C ops k M fuel n (i :: L) s')
    (w0 : World) (X : Nat → Prop) (ψ : Nat → List Nat) (φ : Nat → Value) (a : Act) (w : World) (hF : SimF C ψ φ ⟨E, O⟩ a w) (hc : Ch w0 w X) (hX : ∀ k, inD ψ O M k → X k ∨ w0.heap.size ≤ k) :
    opC P ops (fun w1 => Ch w0 w1 X) i (wpAnyC P .any ops (fun w1 => Ch w0 w1 X) (lift C k) fuel ((ld n L).setIfInBounds i true)) a w := by
  have hDM : ∀ q, inD ψ O D q → inD ψ O M q := fun q ⟨d, od, h1, h2, h3⟩ => ⟨d, od, by
    have := List.all_eq_true.1 hD d h1
    simpa using this, h2, h3⟩
  unfold opC
  simp only [hi, wanted_of hF hg, if_true]
  refine upon_mono (h ψ φ a w hF) (fun a' w' ⟨ψ', φ', h1, h2, h3⟩ => ?_)
  have hcw : Ch w0 w' X := ⟨h2.os.trans hc.os, h2.tape.trans hc.tape, h2.output.trans hc.output, Nat.le_trans hc.size h2.size, fun q hq hnq => by
    rw [h2.block q (Nat.lt_of_lt_of_le hq hc.size) (fun hin => by
      rcases hX q (hDM q hin) with h4 | h4
      · exact hnq h4
      · omega)]
    exact hc.block q hq hnq⟩
  refine ⟨fun _ => hcw, hk w0 X ψ' φ' a' w' h1 hcw (fun q ⟨d, od, g1, g2, g3⟩ => ?_)⟩
  rcases h3 d od g2 q g3 with h4 | ⟨o2, h4, h5⟩ | h4
  · exact .inr (Nat.le_trans hc.size h4)
  · exact hX q ⟨d, o2, g1, h4, h5⟩
  · exact hX q (hDM q h4)
/-- One operation is all that may come up. -/
theorem JD_only {D : List Nat} {o : Oper} {s' : AS} (i : Nat) (hi : ops[i]? = some o) (hr : Region.ready .any ops (ld n L) = [i]) (hg : gOK ops E o = some true) (h : OpD P C D o ⟨E, O⟩ s') (hD : D.all (fun x => M.elem x) = true)
    (hk : JD P C ops k M fuel n (i :: L) s') : JD P C ops k M (fuel + 1) n L ⟨E, O⟩ := fun w0 X ψ φ a w hF hc hX => by
  refine ⟨fun h0 => (by rw [hr] at h0; cases h0), fun j hj => ?_⟩
  rw [hr] at hj
  obtain rfl : j = i := by simpa using hj
  exact opC_of hi hg h hD hk w0 X ψ φ a w hF hc hX
/-- Two operations may come up. -/
theorem JD_two {D D2 : List Nat} {o o2 : Oper} {s' s2 : AS} (i j : Nat) (hi : ops[i]? = some o) (hj : ops[j]? = some o2) (hr : Region.ready .any ops (ld n L) = [i, j]) (hg : gOK ops E o = some true) (hg2 : gOK ops E o2 = some true)
    (h : OpD P C D o ⟨E, O⟩ s') (hD : D.all (fun x => M.elem x) = true) (h2 : OpD P C D2 o2 ⟨E, O⟩ s2) (hD2 : D2.all (fun x => M.elem x) = true)
    (hk : JD P C ops k M fuel n (i :: L) s') (hk2 : JD P C ops k M fuel n (j :: L) s2) : JD P C ops k M (fuel + 1) n L ⟨E, O⟩ := fun w0 X ψ φ a w hF hc hX => by
  refine ⟨fun h0 => (by rw [hr] at h0; cases h0), fun q hq => ?_⟩
  rw [hr] at hq
  rcases (by simpa using hq : q = i ∨ q = j) with rfl | rfl
  · exact opC_of hi hg h hD hk w0 X ψ φ a w hF hc hX
  · exact opC_of hj hg2 h2 hD2 hk2 w0 X ψ φ a w hF hc hX
theorem J_join {c : Code} {s0 : AS} (S : AS) (h : J P C ⟨fun s => Le C s S, k.ret, k.ex⟩ c s0) (h2 : k.nrm S) : J P C k c s0 := fun a w hs =>
  wp_mono (h a w hs) (fun e a w q => by
    cases e with
    | normal => obtain ⟨s1, h1, hr⟩ := q; exact ⟨S, h2, h1 a w hr⟩
    | ret => exact q
    | exit i => exact q
    | goto l => exact q
    | panic c => exact q
    | outgrown => exact q)
theorem JD_frz (i : Nat) {t : Tr} {r : AV} (hi : lk i O = some (.tree t)) (hr : t.ro = r) (h : JD P C ops k M fuel n L ⟨fzE i r E, fzO i r O⟩) : JD P C ops k M fuel n L ⟨E, O⟩ := fun w0 X ψ φ a w hF hc hX => by
  subst hr
  refine h w0 X ψ φ a w (freeze_F C ⟨E, O⟩ i hi ψ φ a w hF) hc (fun q ⟨d, od, g1, g2, g3⟩ => ?_)
  rw [lk_fzO] at g2
  by_cases e : i = d
  · rw [if_pos e] at g2; cases g2
  · rw [if_neg e, Option.map_eq_some_iff] at g2
    obtain ⟨x, hx, _⟩ := g2
    exact hX q ⟨d, x, g1, hx, g3⟩
theorem JD_done {s : AS} (hr : Region.ready .any ops (ld n L) = []) (h : k.nrm s) : JD P C ops k M 0 n L s := fun w0 X ψ φ a w hF hc hX => ⟨hr, s, h, ψ, φ, hF⟩
theorem JD1_done {s : AS} (hr : Region.ready .any ops (ld n L) = []) (h : k.nrm s) : JD1 P C ops k M 0 n L s := fun ψ φ a w hF => ⟨hr, s, h, ψ, φ, hF⟩

/-! ### 33. Calls that return numbers, in quiet regions -/
theorem JQ_call {f : FuncId} {fn : Func} {args : List Operand} {tys : Array TypeId} {ins : List AV} {v : Value} {d : Nat} {o : Oper} {rest : List Oper} (hw : gOK ops E o = some true) (hS : Spec P f ins (.val v) []) (ho : o.op = .call { callee := .value (.func f), args := args.toArray, argTypes := tys }) (hf : P.funcs[f]? = some fn) (hb : fn.body.isNone = false) (hnm : (fn.name == "runtime.NumGoroutine") = false)
    (hd : o.dst = some d) (hn : d < C.n) (he : evL ⟨E, O⟩ args ins) (hr : JQ P C ops k rest ⟨(d, .val v) :: E, O⟩) : JQ P C ops k (o :: rest) ⟨E, O⟩ := fun ψ φ a w w0 hw0 hF => by
  refine wpQuiet_step (fun K hK => ?_)
  rw [if_pos (wanted_of hF hw)]
  refine ⟨v, fun w1 h1 => ?_, hK _ ?_⟩
  · unfold Oper.quietAt
    rw [run_call ho hf hb hnm a w1]
    have hF1 := hF.ext h1
    refine ⟨rfl, ?_⟩
    refine Calls.mono (hS w1 0 (okS C ψ O w1) (fun k hk => hk.2.1) _ (by simp [evL_len he]) (fun j b u hb hu => evL_get hF1 he j b u hb (by simpa using hu))) (fun e w' hq => ?_)
    obtain ⟨v', ψc, φc, rfl, hp, hrep⟩ := hq
    refine ⟨?_, h1.trans (Below.mono (hp.below.below (fun _ _ h => h)) h1.size)⟩
    cases hrep with
    | ro h => cases h; rfl
  · rw [hd]
    exact hr ψ φ _ w w0 hw0 (hF.put d (.val v) v hn (.ro (.val v)))
end
end Go.Proofs.YtmiijpobhajfmaaGreat.J
namespace Go.Proofs.YtmiijpobhajfmaaGreat.J
open Go
set_option linter.unusedVariables false
theorem follows_mixed : (Tryz.prog).follows .mixedOrders = true := by kernel_rfl
instance : LdT Tryz.prog 2 none := ⟨by kernel_rfl⟩
instance : SzT Tryz.prog 2 1 := ⟨by kernel_rfl⟩
instance : InT Tryz.prog 2 .i64 := ⟨by kernel_rfl⟩
instance : ZrT Tryz.prog 2 [.int .i64 0] := ⟨by kernel_rfl⟩
instance : LdT Tryz.prog 3 none := ⟨by kernel_rfl⟩
instance : SzT Tryz.prog 3 1 := ⟨by kernel_rfl⟩
instance : InT Tryz.prog 3 .i64 := ⟨by kernel_rfl⟩
instance : ZrT Tryz.prog 3 [.int .i64 0] := ⟨by kernel_rfl⟩
instance : LdT Tryz.prog 4 none := ⟨by kernel_rfl⟩
instance : SzT Tryz.prog 4 1 := ⟨by kernel_rfl⟩
instance : BoT Tryz.prog 4  := ⟨by kernel_rfl⟩
instance : ZrT Tryz.prog 4 [.bool false] := ⟨by kernel_rfl⟩
instance : LdT Tryz.prog 5 none := ⟨by kernel_rfl⟩
instance : SzT Tryz.prog 5 1 := ⟨by kernel_rfl⟩
instance : InT Tryz.prog 5 .u8 := ⟨by kernel_rfl⟩
instance : ZrT Tryz.prog 5 [.int .u8 0] := ⟨by kernel_rfl⟩
instance : LdT Tryz.prog 12 none := ⟨by kernel_rfl⟩
instance : SzT Tryz.prog 12 1 := ⟨by kernel_rfl⟩
instance : InT Tryz.prog 12 .u64 := ⟨by kernel_rfl⟩
instance : ZrT Tryz.prog 12 [.int .u64 0] := ⟨by kernel_rfl⟩
instance : LdT Tryz.prog 13 (some 2) := ⟨by kernel_rfl⟩
instance : SzT Tryz.prog 13 2 := ⟨by kernel_rfl⟩
instance : FdT Tryz.prog 13 1 1 := ⟨by kernel_rfl⟩
instance : LdT Tryz.prog 21 none := ⟨by kernel_rfl⟩
instance : SzT Tryz.prog 21 1 := ⟨by kernel_rfl⟩
instance : InT Tryz.prog 21 .i32 := ⟨by kernel_rfl⟩
instance : ZrT Tryz.prog 21 [.int .i32 0] := ⟨by kernel_rfl⟩
instance : SlT Tryz.prog 22 89 2 16 := .mk' (by kernel_rfl)
instance : LdT Tryz.prog 22 none := ⟨by kernel_rfl⟩
instance : SzT Tryz.prog 22 1 := ⟨by kernel_rfl⟩
instance : ZrT Tryz.prog 22 [.slice none 0 0] := ⟨by kernel_rfl⟩
instance : LdT Tryz.prog 23 (some 2) := ⟨by kernel_rfl⟩
instance : SzT Tryz.prog 23 2 := ⟨by kernel_rfl⟩
instance : FdT Tryz.prog 23 0 0 := ⟨by kernel_rfl⟩
instance : FdT Tryz.prog 23 1 1 := ⟨by kernel_rfl⟩
instance : BdT Tryz.prog 23 [.int .i64 0, .slice none 0 0] [(0, 1), (1, 1)] := ⟨by kernel_rfl⟩
instance : ZrT Tryz.prog 23 [.int .i64 0, .slice none 0 0] := ⟨by kernel_rfl⟩
instance : LdT Tryz.prog 24 (some 2) := ⟨by kernel_rfl⟩
instance : SzT Tryz.prog 24 2 := ⟨by kernel_rfl⟩
instance : FdT Tryz.prog 24 0 0 := ⟨by kernel_rfl⟩
instance : FdT Tryz.prog 24 1 1 := ⟨by kernel_rfl⟩
instance : BdT Tryz.prog 24 [.int .i64 0, .slice none 0 0] [(0, 1), (1, 1)] := ⟨by kernel_rfl⟩
instance : ZrT Tryz.prog 24 [.int .i64 0, .slice none 0 0] := ⟨by kernel_rfl⟩
instance : SlT Tryz.prog 25 37 1 24 := .mk' (by kernel_rfl)
instance : LdT Tryz.prog 25 none := ⟨by kernel_rfl⟩
instance : SzT Tryz.prog 25 1 := ⟨by kernel_rfl⟩
instance : ZrT Tryz.prog 25 [.slice none 0 0] := ⟨by kernel_rfl⟩
instance : LdT Tryz.prog 30 (some 2) := ⟨by kernel_rfl⟩
instance : SzT Tryz.prog 30 2 := ⟨by kernel_rfl⟩
instance : FdT Tryz.prog 30 0 0 := ⟨by kernel_rfl⟩
instance : FdT Tryz.prog 30 1 1 := ⟨by kernel_rfl⟩
instance : BdT Tryz.prog 30 [.int .i64 0, .slice none 0 0] [(0, 1), (1, 1)] := ⟨by kernel_rfl⟩
instance : ZrT Tryz.prog 30 [.int .i64 0, .slice none 0 0] := ⟨by kernel_rfl⟩
instance : SlT Tryz.prog 37 3 1 8 := .mk' (by kernel_rfl)
instance : LdT Tryz.prog 37 none := ⟨by kernel_rfl⟩
instance : SzT Tryz.prog 37 1 := ⟨by kernel_rfl⟩
instance : ZrT Tryz.prog 37 [.slice none 0 0] := ⟨by kernel_rfl⟩
instance : LdT Tryz.prog 61 (some 1) := ⟨by kernel_rfl⟩
instance : SzT Tryz.prog 61 1 := ⟨by kernel_rfl⟩
instance : FdT Tryz.prog 61 0 0 := ⟨by kernel_rfl⟩
instance : BdT Tryz.prog 61 [.slice none 0 0] [(0, 1)] := ⟨by kernel_rfl⟩
instance : ZrT Tryz.prog 61 [.slice none 0 0] := ⟨by kernel_rfl⟩
instance : LdT Tryz.prog 62 (some 1) := ⟨by kernel_rfl⟩
instance : SzT Tryz.prog 62 1 := ⟨by kernel_rfl⟩
instance : FdT Tryz.prog 62 0 0 := ⟨by kernel_rfl⟩
instance : BdT Tryz.prog 62 [.slice none 0 0] [(0, 1)] := ⟨by kernel_rfl⟩
instance : ZrT Tryz.prog 62 [.slice none 0 0] := ⟨by kernel_rfl⟩
instance : LdT Tryz.prog 73 (some 3) := ⟨by kernel_rfl⟩
instance : SzT Tryz.prog 73 3 := ⟨by kernel_rfl⟩
instance : FdT Tryz.prog 73 0 0 := ⟨by kernel_rfl⟩
instance : FdT Tryz.prog 73 1 1 := ⟨by kernel_rfl⟩
instance : FdT Tryz.prog 73 2 2 := ⟨by kernel_rfl⟩
instance : BdT Tryz.prog 73 [.slice none 0 0, .slice none 0 0, .slice none 0 0] [(0, 1), (1, 1), (2, 1)] := ⟨by kernel_rfl⟩
instance : ZrT Tryz.prog 73 [.slice none 0 0, .slice none 0 0, .slice none 0 0] := ⟨by kernel_rfl⟩
instance : LdT Tryz.prog 74 (some 3) := ⟨by kernel_rfl⟩
instance : SzT Tryz.prog 74 3 := ⟨by kernel_rfl⟩
instance : FdT Tryz.prog 74 0 0 := ⟨by kernel_rfl⟩
instance : FdT Tryz.prog 74 1 1 := ⟨by kernel_rfl⟩
instance : FdT Tryz.prog 74 2 2 := ⟨by kernel_rfl⟩
instance : BdT Tryz.prog 74 [.slice none 0 0, .slice none 0 0, .slice none 0 0] [(0, 1), (1, 1), (2, 1)] := ⟨by kernel_rfl⟩
instance : ZrT Tryz.prog 74 [.slice none 0 0, .slice none 0 0, .slice none 0 0] := ⟨by kernel_rfl⟩
instance : LdT Tryz.prog 76 (some 4) := ⟨by kernel_rfl⟩
instance : SzT Tryz.prog 76 4 := ⟨by kernel_rfl⟩
instance : FdT Tryz.prog 76 0 0 := ⟨by kernel_rfl⟩
instance : FdT Tryz.prog 76 1 1 := ⟨by kernel_rfl⟩
instance : FdT Tryz.prog 76 2 2 := ⟨by kernel_rfl⟩
instance : FdT Tryz.prog 76 3 3 := ⟨by kernel_rfl⟩
instance : BdT Tryz.prog 76 [.slice none 0 0, .slice none 0 0, .slice none 0 0, .slice none 0 0] [(0, 1), (1, 1), (2, 1), (3, 1)] := ⟨by kernel_rfl⟩
instance : ZrT Tryz.prog 76 [.slice none 0 0, .slice none 0 0, .slice none 0 0, .slice none 0 0] := ⟨by kernel_rfl⟩
instance : LdT Tryz.prog 77 (some 4) := ⟨by kernel_rfl⟩
instance : SzT Tryz.prog 77 4 := ⟨by kernel_rfl⟩
instance : FdT Tryz.prog 77 0 0 := ⟨by kernel_rfl⟩
instance : FdT Tryz.prog 77 1 1 := ⟨by kernel_rfl⟩
instance : FdT Tryz.prog 77 2 2 := ⟨by kernel_rfl⟩
instance : FdT Tryz.prog 77 3 3 := ⟨by kernel_rfl⟩
instance : BdT Tryz.prog 77 [.slice none 0 0, .slice none 0 0, .slice none 0 0, .slice none 0 0] [(0, 1), (1, 1), (2, 1), (3, 1)] := ⟨by kernel_rfl⟩
instance : ZrT Tryz.prog 77 [.slice none 0 0, .slice none 0 0, .slice none 0 0, .slice none 0 0] := ⟨by kernel_rfl⟩
instance : LdT Tryz.prog 78 none := ⟨by kernel_rfl⟩
instance : SzT Tryz.prog 78 1 := ⟨by kernel_rfl⟩
instance : ZrT Tryz.prog 78 [.pointer none] := ⟨by kernel_rfl⟩
instance : ArT Tryz.prog 89 2 3 1 := ⟨by kernel_rfl, by kernel_rfl⟩
instance : LdT Tryz.prog 89 (some 2) := ⟨by kernel_rfl⟩
instance : SzT Tryz.prog 89 2 := ⟨by kernel_rfl⟩
instance : ZrT Tryz.prog 89 [.int .i64 0, .int .i64 0] := ⟨by kernel_rfl⟩
instance : SlT Tryz.prog 102 105 3 40 := .mk' (by kernel_rfl)
instance : LdT Tryz.prog 102 none := ⟨by kernel_rfl⟩
instance : SzT Tryz.prog 102 1 := ⟨by kernel_rfl⟩
instance : ZrT Tryz.prog 102 [.slice none 0 0] := ⟨by kernel_rfl⟩
instance : SlT Tryz.prog 103 4 1 1 := .mk' (by kernel_rfl)
instance : LdT Tryz.prog 103 none := ⟨by kernel_rfl⟩
instance : SzT Tryz.prog 103 1 := ⟨by kernel_rfl⟩
instance : ZrT Tryz.prog 103 [.slice none 0 0] := ⟨by kernel_rfl⟩
instance : LdT Tryz.prog 105 (some 3) := ⟨by kernel_rfl⟩
instance : SzT Tryz.prog 105 3 := ⟨by kernel_rfl⟩
instance : FdT Tryz.prog 105 0 0 := ⟨by kernel_rfl⟩
instance : FdT Tryz.prog 105 1 1 := ⟨by kernel_rfl⟩
instance : FdT Tryz.prog 105 2 2 := ⟨by kernel_rfl⟩
instance : BdT Tryz.prog 105 [.int .i64 0, .slice none 0 0, .int .i64 0] [(0, 1), (1, 1), (2, 1)] := ⟨by kernel_rfl⟩
instance : ZrT Tryz.prog 105 [.int .i64 0, .slice none 0 0, .int .i64 0] := ⟨by kernel_rfl⟩
instance : SlT Tryz.prog 107 110 4 32 := .mk' (by kernel_rfl)
instance : LdT Tryz.prog 107 none := ⟨by kernel_rfl⟩
instance : SzT Tryz.prog 107 1 := ⟨by kernel_rfl⟩
instance : ZrT Tryz.prog 107 [.slice none 0 0] := ⟨by kernel_rfl⟩
instance : LdT Tryz.prog 110 (some 4) := ⟨by kernel_rfl⟩
instance : SzT Tryz.prog 110 4 := ⟨by kernel_rfl⟩
instance : FdT Tryz.prog 110 0 0 := ⟨by kernel_rfl⟩
instance : FdT Tryz.prog 110 1 1 := ⟨by kernel_rfl⟩
instance : FdT Tryz.prog 110 2 2 := ⟨by kernel_rfl⟩
instance : FdT Tryz.prog 110 3 3 := ⟨by kernel_rfl⟩
instance : BdT Tryz.prog 110 [.int .i64 0, .int .i64 0, .int .i64 0, .int .i64 0] [(0, 1), (1, 1), (2, 1), (3, 1)] := ⟨by kernel_rfl⟩
instance : ZrT Tryz.prog 110 [.int .i64 0, .int .i64 0, .int .i64 0, .int .i64 0] := ⟨by kernel_rfl⟩
instance : LdT Tryz.prog 126 none := ⟨by kernel_rfl⟩
instance : SzT Tryz.prog 126 1 := ⟨by kernel_rfl⟩
instance : InT Tryz.prog 126 .u64 := ⟨by kernel_rfl⟩
instance : ZrT Tryz.prog 126 [.int .u64 0] := ⟨by kernel_rfl⟩
instance : LdT Tryz.prog 134 none := ⟨by kernel_rfl⟩
instance : SzT Tryz.prog 134 1 := ⟨by kernel_rfl⟩
instance : InT Tryz.prog 134 .u32 := ⟨by kernel_rfl⟩
instance : ZrT Tryz.prog 134 [.int .u32 0] := ⟨by kernel_rfl⟩
instance : LdT Tryz.prog 137 none := ⟨by kernel_rfl⟩
instance : SzT Tryz.prog 137 1 := ⟨by kernel_rfl⟩
instance : InT Tryz.prog 137 .u64 := ⟨by kernel_rfl⟩
instance : ZrT Tryz.prog 137 [.int .u64 0] := ⟨by kernel_rfl⟩
instance : LdT Tryz.prog 142 none := ⟨by kernel_rfl⟩
instance : SzT Tryz.prog 142 1 := ⟨by kernel_rfl⟩
instance : InT Tryz.prog 142 .i64 := ⟨by kernel_rfl⟩
instance : ZrT Tryz.prog 142 [.int .i64 0] := ⟨by kernel_rfl⟩
instance : LdT Tryz.prog 154 none := ⟨by kernel_rfl⟩
instance : SzT Tryz.prog 154 1 := ⟨by kernel_rfl⟩
instance : InT Tryz.prog 154 .u64 := ⟨by kernel_rfl⟩
instance : ZrT Tryz.prog 154 [.int .u64 0] := ⟨by kernel_rfl⟩
instance : LdT Tryz.prog 158 none := ⟨by kernel_rfl⟩
instance : SzT Tryz.prog 158 1 := ⟨by kernel_rfl⟩
instance : ZrT Tryz.prog 158 [.pointer none] := ⟨by kernel_rfl⟩
instance : LdT Tryz.prog 162 none := ⟨by kernel_rfl⟩
instance : SzT Tryz.prog 162 1 := ⟨by kernel_rfl⟩
instance : ZrT Tryz.prog 162 [.pointer none] := ⟨by kernel_rfl⟩
instance : LdT Tryz.prog 175 none := ⟨by kernel_rfl⟩
instance : SzT Tryz.prog 175 1 := ⟨by kernel_rfl⟩
instance : ZrT Tryz.prog 175 [.pointer none] := ⟨by kernel_rfl⟩
end Go.Proofs.YtmiijpobhajfmaaGreat.J
namespace Go.Proofs.YtmiijpobhajfmaaGreat.J
open Go Go.RowKit
set_option linter.unusedVariables false
set_option linter.unusedSimpArgs false

abbrev I (n : Int) : AV := .val (.int .i64 n)
abbrev B (b : Bool) : AV := .val (.bool b)
abbrev Nil : AV := .val (.slice none 0 0)
abbrev cI (n : Int) : List AV := [I n]
abbrev cB (b : Bool) : List AV := [B b]
abbrev L (l : List Int) : AV := .sl 1 (l.map cI)
abbrev cL (l : List Int) : List AV := [L l]
abbrev LL (l : List (List Int)) : AV := .sl 1 (l.map cL)
abbrev cP (p : Int × Int) : List AV := [I p.1, I p.2]
abbrev Pr (p : Int × Int) : AV := .agg (cP p)
abbrev LP (l : List (Int × Int)) : AV := .sl 2 (l.map cP)
abbrev cS (s : Int × List Int × Int) : List AV := [I s.1, L s.2.1, I s.2.2]
abbrev LS (l : List (Int × List Int × Int)) : AV := .sl 3 (l.map cS)
abbrev Gr (n : Int) (es : List (Int × Int)) : AV := .agg [I n, LP es]
/-- An owned row. -/
abbrev Ow (E sz : Nat) {α : Type} (g : α → List AV) (l : List α) : Obj := .tree (.leaf E sz (l.map g))

/-- The entry of a list at an index. -/
def gi {α : Type} [Inhabited α] (l : List α) (i : Int) : α := l.getD i.toNat default
theorem gi_nat {α : Type} [Inhabited α] (l : List α) (i : Nat) : gi l (i : Int) = l.getD i default := rfl
theorem mget {α β : Type} [Inhabited α] {l : List α} {g : α → β} {i : Int} (h : i.toNat < l.length) : (l.map g)[i.toNat]? = some (g (gi l i)) := by
  simp [gi, List.getD, h]
theorem take_gi {α : Type} [Inhabited α] {l : List α} {i : Nat} (h : i < l.length) : l.take (i + 1) = l.take i ++ [gi l i] := by
  rw [List.take_add_one]
  simp [gi, List.getD, h]
theorem take_all {α : Type} {l : List α} {i : Nat} (h : ¬ ((i : Int) < l.length)) : l.take i = l := List.take_of_length_le (by omega)
theorem ltn {n m d : Nat} (h : n = m) (hb : Nat.blt d m = true) : d < n := by
  subst h
  simpa [Nat.blt_eq] using hb
theorem eqv {β : Type} {t : Nat} {e : List (Nat × β)} {a b : β} (h : lk t e = some b) (hab : b = a) : lk t e = some a := by rw [h, hab]
theorem vi {a b : Int} (h : a = b) : I a = I b := by rw [h]
theorem vb {a b : Bool} (h : a = b) : B a = B b := by rw [h]
theorem Le_one {C : Ctx} {s : AS} {t : Nat} {a b : AV} (h : lk t s.env = some b) (hab : b = a) (hw : a.within [] = true) : Le C s ⟨[(t, a)], []⟩ :=
  Le_sub C s _ ⟨eqv h hab, trivial⟩ trivial (by simp [withinE, keys, hw]) rfl

theorem Le_frz {C : Ctx} {s : AS} (i : Nat) {t : Tr} {r : AV} (hi : lk i s.objs = some (.tree t)) (hr : t.ro = r) : Le C s ⟨fzE i r s.env, fzO i r s.objs⟩ := hr ▸ Le_freeze C s i hi
section
variable {P : Program} {C : Ctx} {k : Kt} {o : Oper} {s : AS}
theorem p_len_m {α : Type} {l : List α} {g : α → List AV} {x : Operand} {T E' sz by_ sz' : Nat} [t : SlT P T E' sz by_] (ho : o.op = .call { callee := .builtin .len, args := #[x], argTypes := #[T] }) (hx : ev s x = some (.sl sz' (l.map g))) : PureOp P C o s (I l.length) := by
  have h := p_len (P := P) (C := C) ho hx
  rwa [List.length_map] at h
theorem p_len_om {α : Type} {l : List α} {g : α → List AV} {e sz1 : Nat} {x : Operand} {T E' sz by_ i : Nat} [t : SlT P T E' sz by_] (ho : o.op = .call { callee := .builtin .len, args := #[x], argTypes := #[T] }) (hx : ev s x = some (.own i [])) (hi : lk i s.objs = some (.tree (.leaf e sz1 (l.map g)))) : PureOp P C o s (I l.length) := by
  refine p_len_own (P := P) (C := C) ho hx hi rfl ?_
  simp [Tr.len]
theorem p_slice_m {α : Type} {xs : List α} {g : α → List AV} {sz T E' by_ : Nat} {x : Operand} {lo hi : Option Operand} {l h : Int} {ys : List α} [t : SlT P T E' sz by_] (ho : o.op = .slice T x lo hi none) (hx : ev s x = some (.sl sz (xs.map g)))
    (hlo : bnd s 0 lo = some l) (hhi : bnd s xs.length hi = some h) (h0 : 0 ≤ l) (h1 : l ≤ h) (h2 : h ≤ xs.length) (hy : (xs.take h.toNat).drop l.toNat = ys) : PureOp P C o s (.sl sz (ys.map g)) := by
  subst hy
  have := p_slice (P := P) (C := C) ho hx hlo (by rw [List.length_map]; exact hhi) h0 h1 (by rw [List.length_map]; exact h2)
  rwa [← List.map_take, ← List.map_drop] at this
theorem op_append_m {α : Type} {l l2 : List α} {g : α → List AV} {i d T E' sz by_ : Nat} {x y : Operand} (hT : slK P T = some (E', sz, by_)) (ho : o.op = .call { callee := .builtin .append, args := #[x, y], argTypes := #[T, T] }) (hd : o.dst = some d) (hn : d < C.n)
    (hx : ev s x = some (.own i [])) (hi : lk i s.objs = some (.tree (.leaf E' sz (l.map g)))) (hy : Src C s y sz (l2.map g)) (hb : (l.length + l2.length) * by_ ≤ 140737488355328) (hl : l.length + l2.length ≤ 140737488355328) (h2m : Nat.blt i 2000000 = true := by exact rfl) :
    OpD P C [i] o s ⟨(d, .own i []) :: jkE [i] s.env, (i, Ow E' sz g (l ++ l2)) :: jkO [i] s.objs⟩ := by
  have := op_append (C := C) ho hd hn hT hx hi hy (by simpa using hb) (by simpa using hl) h2m
  rwa [← List.map_append] at this
/-- Appending one thing, or a list. -/
theorem src_sl_m {α : Type} {l : List α} {g : α → List AV} {y : Operand} {sz : Nat} (hy : ev s y = some (.sl sz (l.map g))) : Src C s y sz (l.map g) := src_sl hy
theorem src_own_m {α : Type} {l : List α} {g : α → List AV} {y : Operand} {e sz i : Nat} (hy : ev s y = some (.own i [])) (hi : lk i s.objs = some (.tree (.leaf e sz (l.map g)))) : Src C s y sz (l.map g) := src_own hy hi rfl
theorem src_nil_m {α : Type} {g : α → List AV} {y : Operand} {sz : Nat} (hy : ev s y = some (.val (.slice none 0 0))) : Src C s y sz (([] : List α).map g) := src_nil hy
theorem op_lit0 {α : Type} {g : α → List AV} {T E' sz by_ d : Nat} (hT : slK P T = some (E', sz, by_)) (ho : o.op = .buildSlice T 0 #[]) (hd : o.dst = some d) (hn : d < C.n) (hi : lk d s.objs = none) : OpD P C [] o s ⟨(d, .own d []) :: s.env, (d, Ow E' sz g []) :: s.objs⟩ :=
  op_lit (l := []) ho hd hn hi hT .nil (by simp) (by simp) (by simp)
theorem op_lit1 {α : Type} {g : α → List AV} {v : α} {x : Operand} {av : AV} {T E' by_ d : Nat} (hT : slK P T = some (E', 1, by_)) (ho : o.op = .buildSlice T 1 #[(0, x)]) (hd : o.dst = some d) (hn : d < C.n) (hi : lk d s.objs = none) (hx : ev s x = some av) (hg : [av] = g v) (h1 : av.one = true) (hro : av.isRO = true) :
    OpD P C [] o s ⟨(d, .own d []) :: s.env, (d, Ow E' 1 g [v]) :: s.objs⟩ := by
  have := op_lit (C := C) (s := s) (l := [x]) ho hd hn hi hT (.one hx h1 hro .nil) (by simp) (by simp) (by simp)
  rw [hg] at this
  exact this
theorem op_lit1_agg {α : Type} {g : α → List AV} {v : α} {x : Operand} {cs : List AV} {T E' sz by_ d : Nat} (hT : slK P T = some (E', sz, by_)) (ho : o.op = .buildSlice T 1 #[(0, x)]) (hd : o.dst = some d) (hn : d < C.n) (hi : lk d s.objs = none) (hx : ev s x = some (.agg cs)) (hg : cs = g v) (hsz : cs.length = sz) (hs2 : sz ≤ 16777216) (h1 : AV.oneL cs = true) (hro : AV.roL cs = true) :
    OpD P C [] o s ⟨(d, .own d []) :: s.env, (d, Ow E' sz g [v]) :: s.objs⟩ := by
  have := op_lit (C := C) (s := s) (l := [x]) ho hd hn hi hT (.agg hx h1 hro .nil) (by simp [hsz]) (by simpa using hs2) (by simp)
  rw [hg] at this
  exact this
theorem p_sub_w {x y : Operand} {xt yt : TypeId} {p q : Int} (ho : o.op = .binOp .sub xt x y yt) (hx : ev s x = some (.val (.int .i64 p))) (hy : ev s y = some (.val (.int .i64 q))) : PureOp P C o s (I (IntKind.wrap .i64 (p - q))) :=
  pure_bin ho hx hy (fun w => by simp [binOp, Op.intArith])
theorem p_add_w {x y : Operand} {xt yt : TypeId} {p q : Int} (ho : o.op = .binOp .add xt x y yt) (hx : ev s x = some (.val (.int .i64 p))) (hy : ev s y = some (.val (.int .i64 q))) : PureOp P C o s (I (IntKind.wrap .i64 (p + q))) :=
  pure_bin ho hx hy (fun w => by simp [binOp, Op.intArith])
theorem op_make_m {α : Type} {g : α → List AV} {v : α} {T E' sz by_ d : Nat} {x : Operand} {k1 : IntKind} {n : Int} {zs : List Value} (hT : slK P T = some (E', sz, by_)) (hz : zeroK P E' = some zs) (hg : zs.map .val = g v) (ho : o.op = .makeSlice T x x) (hd : o.dst = some d) (hn : d < C.n) (hi : lk d s.objs = none)
    (hx : ev s x = some (.val (.int k1 n))) (h1 : zs.all (·.oneCell') = true) (h0 : 0 ≤ n) (hb : by_ * n.toNat ≤ 281474976710656) (hb2 : n ≤ 281474976710656) : OpD P C [] o s ⟨(d, .own d []) :: s.env, (d, Ow E' sz g (List.replicate n.toNat v)) :: s.objs⟩ := by
  have := op_make (C := C) ho hd hn hi hT hz hx h0 hb hb2 h1
  rw [hg] at this
  rwa [Ow, List.map_replicate]
theorem op_store_row_m {α : Type} {g : α → List AV} {v : α} {l : List α} {T i e j : Nat} {x y : Operand} {av : AV} (hT : (P.info? T).map (·.size) = some 1) (ho : o.op = .store T x y) (hd : o.dst = none) (hx : ev s x = some (.oref i [] 1 j 0)) (hi : lk i s.objs = some (.tree (.leaf e 1 (l.map g))))
    (hy : ev s y = some av) (hg : [av] = g v) (h1 : av.one = true) (hro : av.isRO = true) (hlen : ∀ a, (g a).length = 1) (hj : j < l.length) : OpD P C [i] o s ⟨s.env, (i, Ow e 1 g (l.set j v)) :: rm i s.objs⟩ := by
  obtain ⟨q, hq⟩ : ∃ q, l[j]? = some q := ⟨_, List.getElem?_eq_getElem hj⟩
  have hq2 : (l.map g)[j]? = some (g q) := by simp [hq]
  refine op_store_row (C := C) ho hd hT hx hi rfl hq2 (by omega) ?_ hy h1 hro
  have h2 : (g q).drop 1 = [] := List.drop_eq_nil_of_le (by rw [hlen]; exact Nat.le_refl _)
  show Tr.leaf e 1 _ = Tr.leaf e 1 _
  rw [Nat.zero_add, h2, List.map_set, ← hg]
  simp
theorem p_idx_own_m {α : Type} {g : α → List AV} {l : List α} {e sz1 : Nat} {T E' sz by_ i' : Nat} {x y : Operand} {ik : IntKind} {i : Int} [t : SlT P T E' sz by_] (ho : o.op = .indexAddr T x y) (hx : ev s x = some (.own i' [])) (hi : lk i' s.objs = some (.tree (.leaf e sz1 (l.map g)))) (hy : ev s y = some (.val (.int ik i))) (h0 : 0 ≤ i) (h1 : i < l.length) : PureOp P C o s (.oref i' [] sz i.toNat 0) :=
  p_idx_own (P := P) (C := C) ho hx hi rfl hy h0 (by show i < ((l.map g).length : Int); rw [List.length_map]; exact h1)
theorem ro_nil {w : World} {ok : Nat → Prop} {v : Value} (sz : Nat) (h : RO w ok (.val (.slice none 0 0)) v) : RO w ok (.sl sz []) v := by
  cases h
  exact .slNil sz
/-- A literal of one nil slice. -/
theorem op_lit_nil {x : Operand} {T E' by_ d : Nat} (hT : slK P T = some (E', 1, by_)) (ho : o.op = .buildSlice T 1 #[(0, x)]) (hd : o.dst = some d) (hn : d < C.n) (hi : lk d s.objs = none) (hx : ev s x = some (.val (.slice none 0 0))) :
    OpD P C [] o s ⟨(d, .own d []) :: s.env, (d, Ow E' 1 cL [[]]) :: s.objs⟩ :=
  op_lit (C := C) (s := s) (l := [x]) ho hd hn hi hT (.wk hx rfl rfl (fun _ _ _ h => ro_nil 1 h) .nil) (by simp) (by simp) (by simp)
/-- A slice that is read has a bounded length. -/
theorem RO.sl_len {w : World} {ok : Nat → Prop} {sz : Nat} {xs : List (List AV)} {v : Value} (h : RO w ok (.sl sz xs) v) : xs.length ≤ maxLen := by
  cases h with
  | slNil => exact Nat.zero_le _
  | sl _ _ _ cap _ hn hc => exact Nat.le_trans hn hc
theorem J_bd {c : Code} {t sz : Nat} {xs : List (List AV)} (ht : lk t s.env = some (.sl sz xs)) (h : xs.length ≤ maxLen → J P C k c s) : J P C k c s := fun a w hs => by
  obtain ⟨ψ, φ, hF⟩ := hs
  exact h ((hF.env t _ ht).2.sl_inv.sl_len) a w ⟨ψ, φ, hF⟩
theorem J_bda {c : Code} {t j sz : Nat} {cs : List AV} {xs : List (List AV)} (ht : lk t s.env = some (.agg cs)) (hj : cs[j]? = some (.sl sz xs)) (h : xs.length ≤ maxLen → J P C k c s) : J P C k c s := fun a w hs => by
  obtain ⟨ψ, φ, hF⟩ := hs
  obtain ⟨vs, e, hsz, hr⟩ := (hF.env t _ ht).2.agg_inv
  have hlt : j < vs.size := by rw [hsz]; exact (List.getElem?_eq_some_iff.1 hj).1
  exact h ((hr j _ _ hj (Array.getElem?_eq_getElem hlt)).sl_inv.sl_len) a w ⟨ψ, φ, hF⟩
theorem op_store_rowA_m {α : Type} {g : α → List AV} {v : α} {l : List α} {T i e j : Nat} {x y : Operand} {cs : List AV} {sz : Nat} (hT : (P.info? T).map (·.size) = some cs.length) (ho : o.op = .store T x y) (hd : o.dst = none) (hx : ev s x = some (.oref i [] sz j 0)) (hi : lk i s.objs = some (.tree (.leaf e sz (l.map g))))
    (hy : ev s y = some (.agg cs)) (hg : cs = g v) (hsz : cs.length = sz) (h1 : AV.oneL cs = true) (hro : AV.roL cs = true) (hlen : ∀ a, (g a).length = sz) (hj : j < l.length) : OpD P C [i] o s ⟨s.env, (i, Ow e sz g (l.set j v)) :: rm i s.objs⟩ := by
  obtain ⟨q, hq⟩ : ∃ q, l[j]? = some q := ⟨_, List.getElem?_eq_getElem hj⟩
  have hq2 : (l.map g)[j]? = some (g q) := by simp [hq]
  refine op_store_row_agg (C := C) ho hd hT hx hi rfl hq2 (by omega) ?_ hy h1 hro
  have h2 : (g q).drop (0 + cs.length) = [] := List.drop_eq_nil_of_le (by rw [hlen]; omega)
  show Tr.leaf e sz _ = Tr.leaf e sz _
  rw [h2, List.map_set, ← hg]
  simp
end
end Go.Proofs.YtmiijpobhajfmaaGreat.J
namespace Go.Proofs.YtmiijpobhajfmaaGreat.J
open Go Go.RowKit
set_option linter.unusedVariables false
set_option linter.unusedSimpArgs false

/-- A row of the call's own of rows of the call's own. -/
abbrev Nd (E : Nat) {α : Type} (f : α → Tr) (l : List α) : Obj := .tree (.node E (l.map f))
abbrev lf (E sz : Nat) {α : Type} (g : α → List AV) (x : List α) : Tr := .leaf E sz (x.map g)
/-- A map with these keys, all true. -/
abbrev Mp (l : List (Int × Int)) : Obj := .mp (l.map kP)
theorem mgetN {α β : Type} [Inhabited α] {l : List α} {g : α → β} {q : Nat} (h : q < l.length) : (l.map g)[q]? = some (g (gi l (q : Int))) := by
  simp [gi, List.getD, h]
theorem get_nm {α : Type} [Inhabited α] {E : Nat} {f : α → Tr} {l : List α} {j : Nat} (h : j < l.length) : (Tr.node E (l.map f)).get [j] = some (f (gi l (j : Int))) := by
  have : (l.map f)[j]? = some (f (gi l (j : Int))) := by
    rw [List.getElem?_map, List.getElem?_eq_getElem h]
    simp [gi, List.getD, h]
  simp [Tr.get, this]
theorem upd_nm {α : Type} {E : Nat} {f : α → Tr} {l : List α} {j : Nat} {v : α} (h : j < l.length) : (Tr.node E (l.map f)).upd [j] (f v) = .node E ((l.set j v).map f) := by
  have : (l.map f)[j]? = some (f l[j]) := by rw [List.getElem?_map, List.getElem?_eq_getElem h]; rfl
  simp [Tr.upd, this, List.map_set]
/-- Rows of rows, read. -/
theorem ro_nd {E E2 : Nat} (l : List (List Int)) : (Tr.node E (l.map (lf E2 1 cI))).ro = LL l := by
  rw [Tr.ro, roT_map, List.map_map]
  rfl
theorem pl_cI (l : List Int) : ∀ x ∈ l.map cI, AV.plL x = true := fun x hx => by
  obtain ⟨n, _, rfl⟩ := List.mem_map.1 hx
  rfl
theorem pl_cB (l : List Bool) : ∀ x ∈ l.map cB, AV.plL x = true := fun x hx => by
  obtain ⟨n, _, rfl⟩ := List.mem_map.1 hx
  rfl
theorem pl_cP (l : List (Int × Int)) : ∀ x ∈ l.map cP, AV.plL x = true := fun x hx => by
  obtain ⟨n, _, rfl⟩ := List.mem_map.1 hx
  rfl
theorem plR {E sz : Nat} {xs : List (List AV)} (h : ∀ x ∈ xs, AV.plL x = true) : Obj.Pl (.tree (.leaf E sz xs)) := .leaf E sz xs h
theorem plN {E : Nat} {α : Type} {f : α → Tr} {l : List α} (h : ∀ x, (f x).Pl) : Obj.Pl (Nd E f l) := .node E _ (fun t ht => by
  obtain ⟨x, _, rfl⟩ := List.mem_map.1 ht
  exact h x)
section
variable {P : Program} {C : Ctx} {k : Kt} {o : Oper} {s : AS}
theorem p_len_nm {α : Type} {l : List α} {f : α → Tr} {e : Nat} {x : Operand} {T E' sz by_ i : Nat} [t : SlT P T E' sz by_] (ho : o.op = .call { callee := .builtin .len, args := #[x], argTypes := #[T] }) (hx : ev s x = some (.own i [])) (hi : lk i s.objs = some (.tree (.node e (l.map f)))) : PureOp P C o s (I l.length) := by
  refine p_len_own (P := P) (C := C) ho hx hi rfl ?_
  simp [Tr.len]
theorem p_idx_nm {α : Type} {l : List α} {f : α → Tr} {e : Nat} {T E' sz by_ i' : Nat} {x y : Operand} {ik : IntKind} {i : Int} [t : SlT P T E' sz by_] (ho : o.op = .indexAddr T x y) (hx : ev s x = some (.own i' [])) (hi : lk i' s.objs = some (.tree (.node e (l.map f)))) (hy : ev s y = some (.val (.int ik i))) (h0 : 0 ≤ i) (h1 : i < l.length) : PureOp P C o s (.oref i' [] sz i.toNat 0) :=
  p_idx_own (P := P) (C := C) ho hx hi rfl hy h0 (by show i < ((l.map f).length : Int); rw [List.length_map]; exact h1)
/-- A row of a row of rows. -/
theorem p_ld_nm {α : Type} {l : List α} {f : α → Tr} {e j i : Nat} {T : Nat} {x : Operand} (ho : o.op = .load T x) (hT : ldK P T = some none) (hx : ev s x = some (.oref i [] 1 j 0)) (hi : lk i s.objs = some (.tree (.node e (l.map f)))) (hj : j < l.length) : PureR P C (some [i]) o s (.own i [j]) :=
  pure_load_node (P := P) (C := C) ho hT hx hi rfl (t' := f l[j]) (by rw [List.getElem?_map, List.getElem?_eq_getElem hj]; rfl)
theorem p_len_np {α β : Type} [Inhabited α] {l : List α} {f : α → Tr} {g : β → List AV} {lst : α → List β} {e e2 sz2 j i : Nat} {x : Operand} {T E' sz by_ : Nat} [t : SlT P T E' sz by_] (hf : ∀ a, f a = .leaf e2 sz2 ((lst a).map g)) (ho : o.op = .call { callee := .builtin .len, args := #[x], argTypes := #[T] }) (hx : ev s x = some (.own i [j])) (hi : lk i s.objs = some (.tree (.node e (l.map f)))) (hj : j < l.length) : PureOp P C o s (I ((lst (gi l (j : Int))).length)) := by
  refine p_len_own (P := P) (C := C) ho hx hi (get_nm hj) ?_
  rw [hf]
  simp [Tr.len]
theorem p_idx_np {α β : Type} [Inhabited α] {l : List α} {f : α → Tr} {g : β → List AV} {lst : α → List β} {e e2 sz2 j i' : Nat} {T E' sz by_ : Nat} {x y : Operand} {ik : IntKind} {i : Int} [t : SlT P T E' sz by_] (hf : ∀ a, f a = .leaf e2 sz2 ((lst a).map g)) (ho : o.op = .indexAddr T x y) (hx : ev s x = some (.own i' [j])) (hi : lk i' s.objs = some (.tree (.node e (l.map f)))) (hj : j < l.length) (hy : ev s y = some (.val (.int ik i))) (h0 : 0 ≤ i) (h1 : i < (lst (gi l (j : Int))).length) : PureOp P C o s (.oref i' [j] sz i.toNat 0) :=
  p_idx_own (P := P) (C := C) ho hx hi (get_nm hj) hy h0 (by rw [hf]; show i < ((((lst _).map g).length : Nat) : Int); rw [List.length_map]; exact h1) (by rw [hf]; rfl)
theorem p_ld_np {α β : Type} [Inhabited α] [Inhabited β] {l : List α} {f : α → Tr} {g : β → List AV} {lst : α → List β} {e e2 j i c q : Nat} {T : Nat} {x : Operand} {av : AV} {sz : Nat} (hf : ∀ a, f a = .leaf e2 sz ((lst a).map g)) (ho : o.op = .load T x) (hT : ldK P T = some none) (hx : ev s x = some (.oref i [j] sz q c)) (hi : lk i s.objs = some (.tree (.node e (l.map f)))) (hj : j < l.length) (hq : q < (lst (gi l (j : Int))).length) (hc : (g (gi (lst (gi l (j : Int))) (q : Int)))[c]? = some av) : PureR P C (some [i]) o s av :=
  pure_load_oref (P := P) (C := C) ho hT hx hi (e := e2) (xs := (lst (gi l (j : Int))).map g) (by rw [get_nm hj, hf]) (mgetN hq) hc
theorem op_store_np {α β : Type} [Inhabited α] [Inhabited β] {l : List α} {f : α → Tr} {g : β → List AV} {lst : α → List β} {e e2 j i q : Nat} {T : Nat} {x y : Operand} {av : AV} {v : β} {u : α} (hf : ∀ a, f a = .leaf e2 1 ((lst a).map g)) (hT : (P.info? T).map (·.size) = some 1) (ho : o.op = .store T x y) (hd : o.dst = none) (hx : ev s x = some (.oref i [j] 1 q 0)) (hi : lk i s.objs = some (.tree (.node e (l.map f)))) (hy : ev s y = some av) (hg : [av] = g v) (h1 : av.one = true) (hro : av.isRO = true) (hlen : ∀ a, (g a).length = 1) (hj : j < l.length) (hq : q < (lst (gi l (j : Int))).length) (hu : lst u = (lst (gi l (j : Int))).set q v) :
    OpD P C [i] o s ⟨s.env, (i, Nd e f (l.set j u)) :: rm i s.objs⟩ := by
  refine op_store_row (C := C) ho hd hT hx hi (e := e2) (sz := 1) (xs := (lst (gi l (j : Int))).map g) (by rw [get_nm hj, hf]) (mgetN hq) (by omega) ?_ hy h1 hro
  have h2 : (g (gi (lst (gi l (j : Int))) (q : Int))).drop (0 + 1) = [] := List.drop_eq_nil_of_le (by rw [hlen]; exact Nat.le_refl _)
  rw [h2, ← upd_nm hj, hf u, hu, List.map_set, ← hg]
  simp
theorem op_lit_node_m {α : Type} {f : α → Tr} {v : α} {T E by_ d j : Nat} {x : Operand} (hT : slK P T = some (E, 1, by_)) (ho : o.op = .buildSlice T 1 #[(0, x)]) (hd : o.dst = some d) (hn : d < C.n) (hx : ev s x = some (.own j [])) (hj : lk j s.objs = some (.tree (f v))) (h2m : Nat.blt j 2000000 = true := by exact rfl) :
    OpD P C [j] o s ⟨(d, .own j []) :: jkE [j] s.env, (j, Nd E f [v]) :: jkO [j] s.objs⟩ := op_lit_node (C := C) ho hd hn hT hx hj h2m
theorem op_append_node_m {α : Type} {f : α → Tr} {l l2 : List α} {i j d T E by_ : Nat} {x y : Operand} (hT : slK P T = some (E, 1, by_)) (ho : o.op = .call { callee := .builtin .append, args := #[x, y], argTypes := #[T, T] }) (hd : o.dst = some d) (hn : d < C.n)
    (hx : ev s x = some (.own i [])) (hi : lk i s.objs = some (.tree (.node E (l.map f)))) (hy : ev s y = some (.own j [])) (hj : lk j s.objs = some (.tree (.node E (l2.map f)))) (hne : Nat.beq i j = false) (hb : (l.length + l2.length) * by_ ≤ 140737488355328) (hl : l.length + l2.length ≤ 140737488355328) (h2m : Nat.blt i 2000000 = true := by exact rfl) :
    OpD P C [i, j] o s ⟨(d, .own i []) :: jkE [i, j] s.env, (i, Nd E f (l ++ l2)) :: jkO [i, j] s.objs⟩ := by
  have := op_append_node (C := C) ho hd hn hT hx hi hy hj hne (by simpa using hb) (by simpa using hl) h2m
  rwa [← List.map_append] at this
theorem op_store_node_m {α : Type} {f : α → Tr} {l : List α} {v : α} {T i j e c : Nat} {x y : Operand} (hT : (P.info? T).map (·.size) = some 1) (ho : o.op = .store T x y) (hd : o.dst = none) (hx : ev s x = some (.oref i [] 1 j 0)) (hi : lk i s.objs = some (.tree (.node e (l.map f)))) (hy : ev s y = some (.own c [])) (hc : lk c s.objs = some (.tree (f v))) (hj : j < l.length) (hne : Nat.beq i c = false) :
    OpD P C [i, c] o s ⟨jmE [i, c] [i] s.env, (i, Nd e f (l.set j v)) :: jmO [i, c] [i] s.objs⟩ := by
  have := op_store_node (C := C) ho hd hT hx hi (by simpa using hj) hy hc hne
  rwa [← List.map_set] at this
/-- The lists inside are only read from here on. -/
theorem Le_kids_m (C : Ctx) (s : AS) (i j : Nat) {e e2 : Nat} {l : List (List Int)} (hi : lk i s.objs = some (Nd e (lf e2 1 cI) l)) (hj : lk j s.objs = none) (h2m : Nat.blt j 2000000 = true := by exact rfl) : Le C s ⟨fzE i (.own j []) s.env, (j, Ow e 1 cL l) :: fzO i (.own j []) s.objs⟩ := by
  have := Le_kids C s i j hi hj h2m
  rw [List.map_map] at this
  exact this
theorem Le_frzN (C : Ctx) (s : AS) (i : Nat) {e e2 : Nat} {l : List (List Int)} (hi : lk i s.objs = some (Nd e (lf e2 1 cI) l)) : Le C s ⟨fzE i (LL l) s.env, fzO i (LL l) s.objs⟩ := Le_frz i hi (ro_nd l)
/-- Quiet calls: function values, borrowed arguments. -/
theorem JQ_callE {f : FuncId} {ins vw : List AV} {v : Value} {d : Nat} {E : List (Nat × AV)} {O : List (Nat × Obj)} {ops : Array Oper} {rest : List Oper} (hw : gOK ops E o = some true) (hS : Spec P f vw (.val v) []) (hE : Enters P C ⟨E, O⟩ o f ins) (hv : ViewL ⟨E, O⟩ ins vw)
    (hd : o.dst = some d) (hn : d < C.n) (hr : JQ P C ops k rest ⟨(d, .val v) :: E, O⟩) : JQ P C ops k (o :: rest) ⟨E, O⟩ := fun ψ φ a w w0 hw0 hF => by
  refine wpQuiet_step (fun K hK => ?_)
  rw [if_pos (wanted_of hF hw)]
  refine ⟨v, fun w1 h1 => ?_, hK _ ?_⟩
  · unfold Oper.quietAt
    have hF1 := hF.ext h1
    obtain ⟨vs, hrun, hsz, hvs⟩ := hE ψ φ a w1 hF1
    rw [hrun w1]
    refine ⟨rfl, ?_⟩
    refine Calls.mono (hS w1 0 (fun k => k < w1.heap.size ∧ (C.ok0 k ∨ C.own k)) (fun k hk => hk.1) vs (by rw [hsz, hv.len]) (fun j b u hb hu => ?_)) (fun e w' hq => ?_)
    · obtain ⟨x, hx, hxv⟩ := hv.get j b hb
      exact hxv.ro_at hF1 (hvs j x u hx hu)
    · obtain ⟨v', ψc, φc, rfl, hp, hrep⟩ := hq
      refine ⟨?_, h1.trans (Below.mono (hp.below.below (fun _ _ h => h)) h1.size)⟩
      cases hrep with
      | ro h => cases h; rfl
  · rw [hd]
    exact hr ψ φ _ w w0 hw0 (hF.put d (.val v) v hn (.ro (.val v)))
theorem view_agg {cs vs : List AV} (h : ViewL s cs vs) : View s (.agg cs) (.agg vs) := .agg cs vs h.len (fun j a b ha hb => by
  obtain ⟨a', ha', hv⟩ := h.get j b hb
  rw [ha] at ha'
  obtain rfl := Option.some.inj ha'
  exact hv)
theorem view_box {i off T : Nat} {cs es ds : List AV} (hi : lk i s.objs = some (.box T cs)) (h : ViewL s cs es) (hb : es.drop off = ds) : View s (.box i off) (.ref ds) := .box i off T cs es ds hi h.len (fun j a b ha hb => by
  obtain ⟨a', ha', hv⟩ := h.get j b hb
  rw [ha] at ha'
  obtain rfl := Option.some.inj ha'
  exact hv) hb
theorem is2_of {K E : TypeId} (h1 : P.underlying K = some (.array 2 E)) (h2 : P.underlying E = some (.int .i64)) (h3 : (P.info? E).map (·.size) = some 1) : Is2 P K := ⟨E, h1, h2, h3⟩
theorem src_part_m {α : Type} {y : Operand} {e sz i l n : Nat} {L : List α} {g : α → List AV} (hy : ev s y = some (.part i [] sz l n)) (hi : lk i s.objs = some (.tree (.leaf e sz (L.map g)))) (hn : n ≤ L.length) (hpl : ∀ a, AV.plL (g a) = true) : Src C s y sz (((L.take n).drop l).map g) := by
  rw [List.map_drop, List.map_take]
  exact src_part hy hi rfl (by simpa using hn) (fun x hx => by
    obtain ⟨a, _, rfl⟩ := List.mem_map.1 hx
    exact hpl a)
theorem op_clear_part_m {α : Type} {g : α → List AV} {v : α} {l : List α} {T E i lo n : Nat} {x : Operand} {z : Value} {za : AV} (ho : o.op = .call { callee := .builtin .clear, args := #[x], argTypes := #[T] }) (hd : o.dst = none) (hu : P.underlying T = some (.slice E)) (hz : (P.info? E).bind (·.zero) = some z) (hz1 : z.oneCell' = true) (hza : ∀ w ok, RO w ok za z) (hg : [za] = g v)
    (hx : ev s x = some (.part i [] 1 lo n)) (hi : lk i s.objs = some (.tree (.leaf E 1 (l.map g)))) : OpD P C [i] o s ⟨s.env, (i, Ow E 1 g (l.take lo ++ List.replicate (n - lo) v ++ l.drop n)) :: rm i s.objs⟩ := by
  have := op_clear_part (C := C) ho hd hu hz hz1 hza hx hi
  rw [hg] at this
  have e : (l.take lo ++ List.replicate (n - lo) v ++ l.drop n).map g = (l.map g).take lo ++ List.replicate (n - lo) (g v) ++ (l.map g).drop n := by
    rw [List.map_append, List.map_append, List.map_take, List.map_drop, List.map_replicate]
  rw [Ow, e]
  exact this
theorem op_copy_m {α : Type} {g : α → List AV} {L L2 : List α} {T T2 E i l n d m : Nat} {x y : Operand} (ho : o.op = .call { callee := .builtin .copy, args := #[x, y], argTypes := #[T, T2] }) (hd : o.dst = some d) (hnd : d < C.n) (hu : P.underlying T = some (.slice E)) (hE : (P.info? E).map (·.size) = some 1)
    (hx : Dst s x i l n) (hi : lk i s.objs = some (.tree (.leaf E 1 (L.map g)))) (hy : Src C s y 1 (L2.map g)) (hn : n = L.length) (hm : min L2.length (n - l) = m) (hm0 : 0 < m) :
    OpD P C [i] o s ⟨(d, I (m : Int)) :: s.env, (i, Ow E 1 g (L.take l ++ L2.take m ++ L.drop (l + m))) :: rm i s.objs⟩ := by
  have := op_copy (C := C) ho hd hnd hu hE hx hi (by simpa using hn) hy (by simpa using hm) hm0
  rwa [← List.map_take, ← List.map_take, ← List.map_drop, ← List.map_append, ← List.map_append] at this
theorem run_max2 {k' : IntKind} (p q : Int) (w : World) : (Builtin.max_ #[] 0 #[.int k' p, .int k' q]).run P w = .ok (.int k' (if p < q then q else p)) w := by
  simp [Builtin.max_, Builtin.max2]
theorem p_max {x y : Operand} {T1 T2 : Nat} {p q : Int} (ho : o.op = .call { callee := .builtin .max, args := #[x, y], argTypes := #[T1, T2] }) (hx : ev s x = some (I p)) (hy : ev s y = some (I q)) : PureOp P C o s (I (if p < q then q else p)) := fun ψ φ a w hF =>
  ⟨_, fun w1 _ => by simp [execOp, ho, resolve, invoke, builtin, hF.ev_val hx, hF.ev_val hy, Builtin.max_, Builtin.max2], .ro (.val _)⟩
theorem pk_add {x y : Operand} {xt yt : TypeId} {kk : IntKind} {p q : Int} (ho : o.op = .binOp .add xt x y yt) (hx : ev s x = some (.val (.int kk p))) (hy : ev s y = some (.val (.int kk q))) : PureOp P C o s (.val (.int kk (kk.wrap (p + q)))) :=
  pure_bin ho hx hy (fun w => by simp [binOp, Op.intArith])
theorem pk_mul {x y : Operand} {xt yt : TypeId} {kk : IntKind} {p q : Int} (ho : o.op = .binOp .mul xt x y yt) (hx : ev s x = some (.val (.int kk p))) (hy : ev s y = some (.val (.int kk q))) : PureOp P C o s (.val (.int kk (kk.wrap (p * q)))) :=
  pure_bin ho hx hy (fun w => by simp [binOp, Op.intArith])
/-- A byte of a string. -/
theorem p_index_str {T : Nat} {b : ByteArray} {kk : IntKind} {y : Operand} {i : Int} (ho : o.op = .index T (.const (.string b)) y) (hT : P.underlying T = some .string) (hy : ev s y = some (.val (.int kk i))) (h0 : 0 ≤ i) (h1 : i.toNat < b.size) : PureOp P C o s (.val (.int .u8 (b[i.toNat]'h1).toNat)) := fun ψ φ a w hF =>
  ⟨_, fun w1 _ => by
    have h2 : a.eval (.const (.string b)) = .string b := rfl
    have h3 : b[i.toNat]? = some (b[i.toNat]'h1) := getElem?_pos b i.toNat h1
    simp [execOp, ho, hF.ev_val hy, h2, Instr.index, asIntOf, run_underlying hT, h0, h3], .ro (.val _)⟩
end
end Go.Proofs.YtmiijpobhajfmaaGreat.J
namespace Go.Proofs.YtmiijpobhajfmaaGreat.J
open Go Go.RowKit
set_option linter.unusedVariables false
set_option linter.unusedSimpArgs false

def liftE (C : Ctx) (k : Kt) (w : World) (e : Exit) (a : Act) (w' : World) : Prop := w' = w ∧ lift C k e a w'
def K (P : Program) (C : Ctx) (k : Kt) (w : World) (c : Code) (s : AS) : Prop := ∀ a, Sim C s a w → c.wp P (liftE C k w) a w
def KL (P : Program) (C : Ctx) (ops : Array Oper) (k : Kt) (w : World) (l : List Oper) (s : AS) : Prop := ∀ a, Sim C s a w → wpList P ops (liftE C k w) l a w
/-- The function returns this value and leaves the world as it was. -/
def SpecE (P : Program) (f : FuncId) (ins : List AV) (v : Value) : Prop :=
  ∀ (w : World) (ok : Nat → Prop) (vs : Array Value), (∀ k, ok k → k < w.heap.size) → vs.size = ins.length → (∀ (j : Nat) a u, ins[j]? = some a → vs[j]? = some u → RO w ok a u) → Calls P f vs w fun e w' => e = .returned v ∧ w' = w
section
variable {P : Program} {C : Ctx} {k : Kt} {w : World} {s s' : AS} {o : Oper}
theorem K_seq {x y : Code} (h : K P C ⟨fun s => K P C k w y s, k.ret, k.ex⟩ w x s) : K P C k w (.seq x y) s := fun a hs =>
  wp_seq (wp_mono (h a hs) (fun e a w' q => by
    obtain ⟨rfl, q⟩ := q
    cases e with
    | normal => obtain ⟨s1, h1, hr⟩ := q; exact h1 a hr
    | ret => exact ⟨rfl, q⟩
    | exit i => exact ⟨rfl, q⟩
    | goto l => exact q.elim
    | panic c => exact q.elim
    | outgrown => exact q.elim))
theorem K_skip (h : k.nrm s) : K P C k w .skip s := fun _ hs => wp_skip ⟨rfl, s, h, hs⟩
theorem K_ret (h : k.ret s) : K P C k w .ret s := fun _ hs => wp_ret ⟨rfl, s, h, hs⟩
theorem K_exit {i : Nat} (h : k.ex i s) : K P C k w (.exit i) s := fun _ hs => wp_exit ⟨rfl, s, h, hs⟩
theorem K_block {i : Nat} {c : Code} (h : K P C ⟨k.nrm, k.ret, fun j s => bif Nat.beq j i then k.nrm s else k.ex j s⟩ w c s) : K P C k w (.block i c) s := fun a hs =>
  wp_block (wp_mono (h a hs) (fun e a w' q => by
    obtain ⟨rfl, q⟩ := q
    cases e with
    | normal => exact ⟨rfl, q⟩
    | ret => exact ⟨rfl, q⟩
    | exit j =>
      obtain ⟨s1, h1, hr⟩ := q
      simp only [Exit.inBlock]
      dsimp only at h1
      by_cases e : j = i
      · subst e
        rw [Nat.beq_refl, cond_true] at h1
        rw [if_pos rfl]
        exact ⟨rfl, s1, h1, hr⟩
      · have : Nat.beq j i = false := by
          cases e2 : Nat.beq j i
          · rfl
          · exact absurd (Nat.eq_of_beq_eq_true e2) e
        rw [this, cond_false] at h1
        rw [if_neg e]
        exact ⟨rfl, s1, h1, hr⟩
    | goto l => exact q.elim
    | panic c => exact q.elim
    | outgrown => exact q.elim))
theorem K_loop {X : Type} {c : Code} (S : X → AS) (R : X → Prop) (m : X → Nat) (x0 : X) (h0 : R x0) (hs : Le C s (S x0))
    (hb : ∀ x, R x → K P C ⟨fun s' => ∃ x', R x' ∧ m x' < m x ∧ Le C s' (S x'), k.ret, k.ex⟩ w c (S x)) : K P C k w (.loop c) s := by
  intro a hsim
  have key : ∀ n x, m x = n → R x → ∀ a, Sim C (S x) a w → ∀ (b : Frame) (kk : List Item) (cs : List Frame),
      ∃ e a' w', liftE C k w e a' w' ∧ Arrives P (lone (b.at a (.code c :: .inLoop c :: kk)) cs w) b kk cs e a' w' := by
    intro n
    induction n using Nat.strongRecOn with
    | _ n ih =>
      intro x hn hR a hx b kk cs
      obtain ⟨e, a₁, w₁, ⟨hw, hq⟩, harr⟩ := hb x hR a hx b (.inLoop c :: kk) cs
      subst hw
      cases e with
      | normal =>
        obtain ⟨s1, ⟨x', h1, h2, h3⟩, hr⟩ := hq
        obtain ⟨e₂, a₂, w₂, hq₂, harr₂⟩ := ih (m x') (hn ▸ h2) x' rfl h1 a₁ (h3 _ _ hr) b kk cs
        exact ⟨e₂, a₂, w₂, hq₂, .of_steps (Steps.trans harr (.one step_inLoop)) harr₂⟩
      | exit id => exact ⟨.exit id, a₁, w₁, ⟨rfl, hq⟩, .pass (x := .inLoop c) rfl (fun _ _ => .inl (by simp)) harr⟩
      | goto l => exact hq.elim
      | ret => exact ⟨.ret, a₁, w₁, ⟨rfl, hq⟩, .pass (x := .inLoop c) rfl (fun _ _ => .inl (by simp)) harr⟩
      | panic ch => exact hq.elim
      | outgrown => exact hq.elim
  intro b kk cs
  obtain ⟨e, a', w', hq, harr⟩ := key _ x0 rfl h0 a (hs a w hsim) b kk cs
  exact ⟨e, a', w', hq, .of_steps (.one step_loop) harr⟩
theorem K_region {id : Nat} {l : List Oper} (h : KL P C l.toArray k w l s) : K P C k w (.region id l.toArray false) s := fun a hs => wp_region_lit (h a hs)
theorem KL_nil {ops : Array Oper} (h : k.nrm s) : KL P C ops k w [] s := fun _ hs => wpList_nil ⟨rfl, s, h, hs⟩
theorem kl {rd : Option (List Nat)} {av : AV} {d : Nat} {E : List (Nat × AV)} {O : List (Nat × Obj)} {ops : Array Oper} {rest : List Oper} (hg : gOK ops E o = some true) (hd : o.dst = some d) (hn : d < C.n) (h : PureR P C rd o ⟨E, O⟩ av) (hr : KL P C ops k w rest ⟨(d, av) :: E, O⟩) : KL P C ops k w (o :: rest) ⟨E, O⟩ := fun a hs => by
  obtain ⟨ψ, φ, hF⟩ := hs
  obtain ⟨v, hv, hrep⟩ := h ψ φ a w hF
  unfold wpList
  rw [if_pos (wanted_of hF hg)]
  refine .inl ?_
  unfold Oper.wp
  rw [hv w (.of_below (Below.refl _ _)), Oper.upon_value, hd]
  exact hr _ ⟨ψ, φ, hF.put d av v hn hrep⟩
theorem kl_call {f : FuncId} {ins : List AV} {v : Value} {d : Nat} {E : List (Nat × AV)} {O : List (Nat × Obj)} {ops : Array Oper} {rest : List Oper} (hg : gOK ops E o = some true) (hS : SpecE P f ins v) (hE : Enters P C ⟨E, O⟩ o f ins) (hro : AV.roDL ins = true) (hd : o.dst = some d) (hn : d < C.n) (hr : KL P C ops k w rest ⟨(d, .val v) :: E, O⟩) : KL P C ops k w (o :: rest) ⟨E, O⟩ := fun a hs => by
  obtain ⟨ψ, φ, hF⟩ := hs
  obtain ⟨vs, hrun, hsz, hvs⟩ := hE ψ φ a w hF
  unfold wpList
  rw [if_pos (wanted_of hF hg)]
  refine .inl ?_
  unfold Oper.wp
  rw [hrun w, Oper.upon_enter]
  refine Calls.mono (hS w (okS C ψ O w) vs (fun k hk => hk.2.1) hsz (fun j b u hb hu => (hvs j b u hb hu).ro_deep (roDL_mem ins hro b (List.mem_of_getElem? hb)))) (fun e w' hq => ?_)
  obtain ⟨rfl, rfl⟩ := hq
  rw [hd]
  exact hr _ ⟨ψ, φ, hF.put d (.val v) v hn (.ro (.val v))⟩
theorem K_cond {c : Operand} {x y : Code} {b : Bool} (hc : ev s c = some (.val (.bool b))) (h1 : b = true → K P C k w x s) (h2 : b = false → K P C k w y s) : K P C k w (.cond c x y) s := fun a hs => by
  obtain ⟨ψ, φ, hF⟩ := hs
  exact wp_cond_split (hF.ev_val hc) (fun e => h1 e a ⟨ψ, φ, hF⟩) (fun e => h2 e a ⟨ψ, φ, hF⟩)
theorem K_cond_t {c : Operand} {x y : Code} (hc : ev s c = some (.val (.bool true))) (h1 : K P C k w x s) : K P C k w (.cond c x y) s := K_cond hc (fun _ => h1) (fun e => by cases e)
theorem K_cond_f {c : Operand} {x y : Code} (hc : ev s c = some (.val (.bool false))) (h1 : K P C k w y s) : K P C k w (.cond c x y) s := K_cond hc (fun e => by cases e) (fun _ => h1)
theorem K_cond_p {c : Operand} {x y : Code} {p : Prop} [Decidable p] (hc : ev s c = some (.val (.bool (decide p)))) (h1 : p → K P C k w x s) (h2 : ¬ p → K P C k w y s) : K P C k w (.cond c x y) s :=
  K_cond hc (fun e => h1 (of_decide_eq_true e)) (fun e => h2 (of_decide_eq_false e))
theorem SpecE.intro {f : FuncId} {fn : Func} {c : Code} {ins : List AV} {v : Value} (hf : P.funcs[f]? = some fn) (hb : fn.body = some c) (hn : ins.length ≤ fn.ntmps)
    (h : ∀ (C : Ctx) (w : World), C.n = fn.ntmps → (∀ i, C.fix i = none) → K P C ⟨Fin P C fn (.val v) [], Fin P C fn (.val v) [], fun _ _ => False⟩ w c ⟨enumE 0 ins, []⟩) (h6 : fn.ntmps ≤ 1000000 := by exact Nat.le_of_ble_eq_true rfl) : SpecE P f ins v := by
  intro w ok vs hok hsz hro
  have hmin : min fn.ntmps 1000000 = fn.ntmps := Nat.min_eq_left h6
  have hJ := h (mkC w fn.ntmps ok hok) w hmin (fun _ => rfl)
  refine calls_of_wp hf hb (wp_mono (hJ { tmps := vs ++ Array.replicate (fn.ntmps - vs.size) undef, defers := [] } ⟨fun _ => [], fun _ => undef, rfl, by simp [hsz, mkC]; omega, ⟨Ch.refl _ _, (fun i o hi => by cases hi), (fun i j oi oj k hi => by cases hi), (fun i o k hi => by cases hi), (fun i u oi hu => by cases hu)⟩, fun t av ht => ?_⟩) (fun e a w' q => ?_))
  · rw [lk_enumE, if_pos (Nat.zero_le _), Nat.sub_zero] at ht
    have htl : t < ins.length := (List.getElem?_eq_some_iff.1 ht).1
    refine ⟨by show t < min _ _; rw [hmin]; exact Nat.lt_of_lt_of_le htl hn, .ro ?_⟩
    have htv : t < vs.size := by omega
    have e : (vs ++ Array.replicate (fn.ntmps - vs.size) undef).getD t undef = vs[t] := by
      rw [Array.getD_eq_getD_getElem?, Array.getElem?_append_left htv, Array.getElem?_eq_getElem htv]
      rfl
    show RO w _ av ((vs ++ Array.replicate (fn.ntmps - vs.size) undef).getD t undef)
    rw [e]
    exact (hro t av _ ht (Array.getElem?_eq_getElem htv)).move (fun _ _ => rfl) (fun k hk => ⟨.inl hk, hok k hk, fun i o hi => by cases hi⟩)
  · obtain ⟨rfl, q⟩ := q
    have hres : ∀ s1, Fin P (mkC w' fn.ntmps ok hok) fn (.val v) [] s1 → Sim (mkC w' fn.ntmps ok hok) s1 a w' → a.defers = [] ∧ ∃ u, (results fn a.tmps).run P w' = .ok u w' ∧ Ending.returned u = .returned v ∧ w' = w' := by
      intro s1 h1 h2
      obtain ⟨u, ψ, φ, hr, hp, hrep⟩ := h1 a w' h2
      obtain ⟨ψ0, φ0, hF⟩ := h2
      refine ⟨hF.defers, u, hr, ?_, rfl⟩
      cases hrep with
      | ro h => cases h; rfl
    cases e with
    | normal => obtain ⟨s1, h1, h2⟩ := q; exact hres s1 h1 h2
    | ret => obtain ⟨s1, h1, h2⟩ := q; exact hres s1 h1 h2
    | exit i => obtain ⟨s1, h1, h2⟩ := q; exact h1.elim
    | goto l => exact q.elim
    | panic ch => exact q.elim
    | outgrown => exact q.elim
end
end Go.Proofs.YtmiijpobhajfmaaGreat.J
