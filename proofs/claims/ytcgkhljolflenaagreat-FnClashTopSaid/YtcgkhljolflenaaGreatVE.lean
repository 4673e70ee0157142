/- More kinds of operations: addresses, parts, numbers. No condition but each theorem's own. -/
import Derived.Test.YtcgkhljolflenaaGreatVD
namespace Go.Proofs.YtcgkhljolflenaaGreatW.V
open Go

section
variable {P : Program} {x : Ctx} {μ : Mu} {I : Imm} {s : St} {a : Act} {w : World}

/-! ### Pointers -/
def isP : E → Bool
  | .x (.o (.p ..)) => true
  | .x (.o (.e ..)) => true
  | _ => false

/-- A pointer that may be gone on from: a live one. -/
def liveP (rt : Nm → Option Root) : E → Prop
  | .x (.o (.p ρ _ _ m)) => ∃ r, rt ρ = some r ∧ r.plen = some m
  | .x (.o (.e ..)) => True
  | _ => False

theorem plen_len {r : Root} {m : Nat} (h : r.plen = some m) : r.len = m := by
  cases r with
  | mp es => cases h
  | _ => exact Option.some.inj h
theorem live_ptr (h : RelX x μ I s a w) {e : E} {u : Value} (he : ER w I μ s.L e u) (hl : liveP s.rt e) : ∃ q, u = .pointer (some q) ∧ q.spot = none := by
  unfold liveP at hl
  split at hl
  · rename_i ρ i o m
    obtain ⟨r, hr, hm⟩ := hl
    obtain ⟨_, f, hf, hq⟩ := he
    obtain ⟨b, hb, e⟩ := (hq m (by simp [St.L, hr, plen_len hm])).2 rfl
    obtain ⟨f', hf', hR, _⟩ := h.root ρ r hr
    rw [hf] at hf'; cases hf'
    rw [ptV_le (hR.cap hm hb)] at e
    exact ⟨_, e, rfl⟩
  · obtain ⟨b, oo, k, us, hb, e⟩ := he
    exact ⟨_, e, rfl⟩
  · exact hl.elim

theorem go_nilCheck (h : RelX x μ I s a w) {o : Oper} {y : Operand} (ho : o.op = .nilCheck y) (hd : ∀ d, o.dst = some d → d < x.n) {e : E} (he : evE s.env y = some e) (hl : liveP s.rt e) {ob : Prop} :
    Goes P x o a w (s.app o.dst ⟨some e, [], false, ob⟩) := by
  obtain ⟨q, hq, _⟩ := live_ptr h (evE_spec h he) hl
  exact goes_val h hd (v := a.eval y) (by simp [execOp, ho, hq]) (evE_spec h he)

/-- A pointer moved on by n cells. -/
def addP (n : Nat) : E → Option E
  | .x (.o (.p ρ i o m)) => some (.x (.o (.p ρ i (o + n) m)))
  | .x (.o (.e xs i o)) => some (.x (.o (.e xs i (o + n))))
  | _ => none

theorem addP_spec (h : RelX x μ I s a w) {e e' : E} {u : Value} {n : Nat} {q : Addr} (he : ER w I μ s.L e u) (hu : u = .pointer (some q)) (hs : q.spot = none) (hl : liveP s.rt e) (ha : addP n e = some e') : ER w I μ s.L e' (.pointer (some ⟨q.block, q.off + n, none⟩)) := by
  unfold addP at ha
  split at ha
  · rename_i ρ i o m
    cases ha
    obtain ⟨r, hr, hm⟩ := hl
    obtain ⟨_, f, hf, hq⟩ := he
    obtain ⟨f', hf', hR, _⟩ := h.root ρ r hr
    rw [hf] at hf'; cases hf'
    refine ⟨rfl, f, hf, fun l hl => ⟨(hq l hl).1, fun e => ?_⟩⟩
    obtain ⟨b, hb, e1⟩ := (hq l hl).2 e
    rw [ptV_le (hR.cap hm hb)] at e1
    rw [hu] at e1; cases e1
    exact ⟨b, hb, by rw [ptV_le (hR.cap hm hb)]; simp [Nat.add_assoc]⟩
  · rename_i xs i o
    cases ha
    obtain ⟨b, oo, k, us, hb, e⟩ := he
    rw [hu] at e; cases e
    exact ⟨b, oo, k, us, hb, by simp [Nat.add_assoc]⟩
  · cases ha

theorem go_fieldAddr (h : RelX x μ I s a w) {o : Oper} {t : TypeId} {y : Operand} {fn : Nat} (ho : o.op = .fieldAddr t y fn) (hd : ∀ d, o.dst = some d → d < x.n) {e e' : E} (he : evE s.env y = some e) (hl : liveP s.rt e)
    {d df : TD} (ht : td P t = some d) {fs : List (Nat × TypeId)} (hk : d.k = .st fs) {off ft : Nat} (hf : fs[fn]? = some (off, ft)) (hft : td P ft = some df) (hz : df.size ≠ 0) (ha : addP off e = some e') {ob : Prop} :
    Goes P x o a w (s.app o.dst ⟨some e', [], false, ob⟩) := by
  have hr := evE_spec h he
  obtain ⟨q, hq, hs⟩ := live_ptr h hr hl
  have h2 := addP_spec h hr hq hs hl ha
  obtain ⟨gs, hgs, rfl⟩ := td_st ht hk
  rw [List.getElem?_map] at hf
  cases hg : gs.toList[fn]? with
  | none => rw [hg] at hf; cases hf
  | some g =>
    rw [hg] at hf
    simp only [Option.map_some, Option.some.injEq, Prod.mk.injEq] at hf
    obtain ⟨rfl, rfl⟩ := hf
    have hg' : gs[fn]? = some g := by simpa using hg
    obtain ⟨qb, qo, qs⟩ := q
    simp only at hs; subst hs
    refine goes_val h hd (v := .pointer (some ⟨qb, qo + g.offset, none⟩)) ?_ h2
    simp [execOp, ho, hq, Instr.fieldAt, run_underlying hgs, hg', Instr.sureAddr, fieldPlace, run_sizeOf hft, hz, Addr.add_lit]

/-! ### Parts of values -/
def partA (df : TD) (off : Nat) (cs : List D) : Option A := if off + df.size ≤ cs.length then mkA df.agg ((cs.drop off).take df.size) else none

theorem run_part {ft : TypeId} {df : TD} (hft : td P ft = some df) {cs : List D} {us : List Value} (h : F2 (DR w I μ s.L) cs us) {off : Nat} {y : A} (hy : partA df off cs = some y) :
    ∃ v, (part ft us.toArray off).run P w = .ok v w ∧ AR w I μ s.L y v := by
  unfold partA at hy
  split at hy
  · rename_i hle
    have h1 := F2.take df.size (F2.drop off h)
    obtain ⟨hA, hA1⟩ := mkA_spec hy h1
    refine ⟨_, ?_, hA⟩
    simp only [part, Sem.run_bind, run_isAgg hft, Result.andThen_ok, Sem.run_ite]
    cases hd : df.agg with
    | true =>
      simp only [if_true, run_sizeOf hft, Result.andThen_ok, Sem.run_pure, asV]
      congr 2
      apply Array.ext'
      simp
    | false =>
      obtain ⟨v, hv⟩ := hA1 hd
      have h0 : us[off]? = some v := by
        have := congrArg (·[0]?) hv
        simp only [List.getElem?_take, List.getElem?_drop, Nat.add_zero, List.getElem?_cons_zero] at this
        split at this
        · exact this
        · cases this
      simp [asV, hv, h0]
  · cases hy

theorem go_field (h : RelX x μ I s a w) {o : Oper} {t : TypeId} {y : Operand} {fn : Nat} (ho : o.op = .field t y fn) (hd : ∀ d, o.dst = some d → d < x.n) {cs : List D} (he : evE s.env y = some (.x (.a cs)))
    {d df : TD} (ht : td P t = some d) {fs : List (Nat × TypeId)} (hk : d.k = .st fs) {off ft : Nat} (hf : fs[fn]? = some (off, ft)) (hft : td P ft = some df) {z : A} (hz : partA df off cs = some z) {ob : Prop} :
    Goes P x o a w (s.app o.dst ⟨some (.x z), [], false, ob⟩) := by
  obtain ⟨us, hu, hr⟩ := evE_spec h he
  obtain ⟨v, h1, h2⟩ := run_part hft hr hz
  obtain ⟨gs, hgs, rfl⟩ := td_st ht hk
  rw [List.getElem?_map] at hf
  cases hg : gs.toList[fn]? with
  | none => rw [hg] at hf; cases hf
  | some g =>
    rw [hg] at hf
    simp only [Option.map_some, Option.some.injEq, Prod.mk.injEq] at hf
    obtain ⟨rfl, rfl⟩ := hf
    have hg' : gs[fn]? = some g := by simpa using hg
    refine goes_val h hd (e := .x z) (v := v) ?_ h2
    simp [execOp, ho, hu, Instr.field, run_underlying hgs, hg', asAgg, h1]

theorem go_extract (h : RelX x μ I s a w) {o : Oper} {y : Operand} {i : Nat} (ho : o.op = .extract y i) (hd : ∀ d, o.dst = some d → d < x.n) {vs : List A} (he : evE s.env y = some (.t vs)) {z : A} (hz : vs[i]? = some z) {ob : Prop} :
    Goes P x o a w (s.app o.dst ⟨some (.x z), [], false, ob⟩) := by
  obtain ⟨us, hu, hr⟩ := evE_spec h he
  obtain ⟨v, hv, hvr⟩ := F2.get hr i z hz
  refine goes_val h hd (e := .x z) (v := v) ?_ hvr
  simp [execOp, ho, hu, Instr.extract, hv]

/-! ### Numbers -/
def isI : E → Option (IntKind × Int)
  | .x (.o (.c (.v (.int k n)))) => some (k, n)
  | _ => none
theorem isI_spec {e : E} {k : IntKind} {n : Int} (h : isI e = some (k, n)) : e = sc (.int k n) := by
  unfold isI at h; split at h <;> cases h; rfl

def andI (k : IntKind) (m n : Int) : Int := k.wrap (BitVec.ofInt k.bits m &&& BitVec.ofInt k.bits n).toNat
def orI (k : IntKind) (m n : Int) : Int := k.wrap (BitVec.ofInt k.bits m ||| BitVec.ofInt k.bits n).toNat
def xorI (k : IntKind) (m n : Int) : Int := k.wrap (BitVec.ofInt k.bits m ^^^ BitVec.ofInt k.bits n).toNat
/-- Operators on two numbers, on two strings. -/
def binV (op : BinOp) : Value → Value → Option (Value × Prop)
  | .int k m, .int l n => match op with
    | .shl => some (.int k (k.wrap (m * 2 ^ (min n.toNat k.bits))), 0 ≤ n)
    | .shr => some (.int k (m.fdiv (2 ^ (min n.toNat k.bits))), 0 ≤ n)
    | .add => some (.int k (k.wrap (m + n)), k = l)
    | .sub => some (.int k (k.wrap (m - n)), k = l)
    | .mul => some (.int k (k.wrap (m * n)), k = l)
    | .quo => some (.int k (k.wrap (m.tdiv n)), k = l ∧ n ≠ 0)
    | .rem => some (.int k (m.tmod n), k = l ∧ n ≠ 0)
    | .and => some (.int k (andI k m n), k = l)
    | .or => some (.int k (orI k m n), k = l)
    | .xor => some (.int k (xorI k m n), k = l)
    | .andNot => none
    | .eql => some (.bool (decide (m = n)), k = l)
    | .neq => some (.bool (!decide (m = n)), k = l)
    | .lss => some (.bool (decide (m < n)), k = l)
    | .leq => some (.bool (decide (m ≤ n)), k = l)
    | .gtr => some (.bool (decide (n < m)), k = l)
    | .geq => some (.bool (decide (n ≤ m)), k = l)
  | .string m, .string n => match op with
    | .add => some (.string (m ++ n), m.size + n.size ≤ 9223372036854775807)
    | .eql => some (.bool (decide (m = n)), True)
    | .neq => some (.bool (!decide (m = n)), True)
    | _ => none
  | _, _ => none

theorem bytes_ext {m n : ByteArray} : m = n ↔ m.toList = n.toList := by
  rw [ByteArray.toList_eq, ByteArray.toList_eq]
  refine ⟨fun h => by rw [h], fun h => ?_⟩
  obtain ⟨⟨l⟩⟩ := m
  obtain ⟨⟨l'⟩⟩ := n
  simp at h
  rw [h]
theorem beq_bytes (m n : ByteArray) : (m.toList == n.toList) = decide (m = n) := by
  by_cases h : m = n
  · subst h; simp
  · have : ¬ m.toList = n.toList := fun e => h (bytes_ext.2 e)
    simp [h, this]
theorem beq_int (m n : Int) : (m == n) = decide (m = n) := by
  by_cases h : m = n <;> simp [h]

theorem run_binV {op : BinOp} {t : TypeId} {y z : Operand} {m n v : Value} {ob : Prop} (h : binV op m n = some (v, ob)) (hob : ob) : (do eqGuard op t y z m n; binOp op t m n : Sem Value).run P w = .ok v w := by
  unfold binV at h
  split at h
  · rename_i k m l n
    have hg : (eqGuard op t y z (.int k m) (.int l n)).run P w = .ok () w := by cases op <;> simp [eqGuard]
    simp only [Sem.run_bind, hg, Result.andThen_ok]
    split at h <;> cases h
    all_goals first
      | (have hn : ¬ n < 0 := by omega
         simp [binOp, Op.shift, hn]; done)
      | (obtain ⟨rfl, hn⟩ := hob; simp [binOp, Op.intDiv, hn]; done)
      | (obtain rfl := hob; simp [binOp, Op.intArith]; done)
      | (obtain rfl := hob; simp [binOp, Op.intBits, andI, orI, xorI]; done)
      | (obtain rfl := hob; simp [binOp, Op.intCmp]; done)
      | (obtain rfl := hob; simp [binOp, Op.intCmp, bne, beq_int]; done)
  · rename_i m n
    have hg : (eqGuard op t y z (.string m) (.string n)).run P w = .ok () w := by cases op <;> simp [eqGuard]
    simp only [Sem.run_bind, hg, Result.andThen_ok]
    split at h <;> cases h
    · have : ¬ ((m.size + n.size : Nat) : Int) > IntKind.i64.max := by
        have e : IntKind.i64.max = 9223372036854775807 := by decide
        rw [e]; omega
      simp only [binOp, Op.stringOp, this, if_false]
      rfl
    · simp [binOp, Op.stringOp, beq_bytes]
    · simp [binOp, Op.stringOp, beq_bytes]
  · cases h

theorem go_bin (h : RelX x μ I s a w) {o : Oper} {op : BinOp} {t u : TypeId} {y z : Operand} (ho : o.op = .binOp op t y z u) (hd : ∀ d, o.dst = some d → d < x.n) {m n v : Value} (hy : evE s.env y = some (sc m)) (hz : evE s.env z = some (sc n))
    {ob : Prop} (hb : binV op m n = some (v, ob)) (hob : ob) {ob' : Prop} : Goes P x o a w (s.app o.dst ⟨some (sc v), [], false, ob'⟩) := by
  have e1 : a.eval y = m := sc_er (evE_spec h hy)
  have e2 : a.eval z = n := sc_er (evE_spec h hz)
  have hv : v.oneCell' = true := by
    unfold binV at hb
    split at hb
    · split at hb <;> cases hb <;> rfl
    · split at hb <;> cases hb <;> rfl
    · cases hb
  refine goes_val h hd (e := sc v) (v := v) ?_ (.v v hv)
  have := run_binV (P := P) (w := w) (t := t) (y := y) (z := z) hb hob
  simp only [execOp, ho, e1, e2]
  simp only [Sem.run_bind] at this ⊢
  simp only [this, Result.andThen_ok, Sem.run_pure]

def unV (op : UnOp) : Value → Option Value
  | .int k n => match op with
    | .neg => some (.int k (k.wrap (0 - n)))
    | .xor => some (.int k (k.wrap (BitVec.ofInt k.bits (if k.signed then -1 else k.max) ^^^ BitVec.ofInt k.bits n).toNat))
    | _ => none
  | .bool b => match op with
    | .not => some (.bool (!b))
    | _ => none
  | _ => none

theorem go_un (h : RelX x μ I s a w) {o : Oper} {op : UnOp} {t : TypeId} {y : Operand} (ho : o.op = .unOp op t y) (hd : ∀ d, o.dst = some d → d < x.n) {m v : Value} (hy : evE s.env y = some (sc m)) (hb : unV op m = some v) {ob' : Prop} :
    Goes P x o a w (s.app o.dst ⟨some (sc v), [], false, ob'⟩) := by
  have e1 : a.eval y = m := sc_er (evE_spec h hy)
  unfold unV at hb
  split at hb
  · split at hb
    · cases hb
      exact goes_val h hd (e := sc _) (by simp only [execOp, ho, e1, Op.unary, Op.intArith, Sem.run_bind, Sem.run_pure, Result.andThen_ok]) (.v _ rfl)
    · cases hb
      exact goes_val h hd (e := sc _) (by simp only [execOp, ho, e1, Op.unary, Op.intBits, Sem.run_bind, Sem.run_pure, Result.andThen_ok]) (.v _ rfl)
    · cases hb
  · split at hb
    · cases hb
      exact goes_val h hd (e := sc _) (by simp [execOp, ho, e1, Op.unary]) (.v _ rfl)
    · cases hb
  · cases hb
end

end Go.Proofs.YtcgkhljolflenaaGreatW.V
