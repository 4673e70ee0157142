/- Slicing, conversions, equality of structs, building. No condition but each theorem's own. -/
import Derived.Test.YtcgkhljolflenaaGreatVF
import Derived.Lib.ConvBytes
import Derived.Laws.StructEq
import Derived.Laws.BytesString
namespace Go.Proofs.YtcgkhljolflenaaGreatW.V
open Go

section
variable {P : Program} {x : Ctx} {μ : Mu} {I : Imm} {s : St} {a : Act} {w : World}

/-! ### Slicing -/
/-- A bound: the operand's number, or what stands for none. -/
def bndE (env : Nat → Option E) (dflt : Int) : Option Operand → Option Int
  | none => some dflt
  | some z => match evE env z with
    | some e => match isI e with
      | some (_, i) => some i
      | none => none
    | none => none

theorem bnd_spec (h : RelX x μ I s a w) {z : Operand} {dflt i : Int} (hb : bndE s.env dflt (some z) = some i) : ∃ k, a.eval z = .int k i := by
  simp only [bndE] at hb
  split at hb
  · rename_i e he
    split at hb
    · rename_i k j hj
      cases hb
      exact ⟨k, sc_er (isI_spec hj ▸ evE_spec h he)⟩
    · cases hb
  · cases hb

theorem run_bounds (h : RelX x μ I s a w) {lo hi : Option Operand} {l r : Int} {len cap : Nat} {b : Bool} (hl : bndE s.env 0 lo = some l) (hr : bndE s.env len hi = some r) (h0 : 0 ≤ l) (h1 : l ≤ r) (h2 : r ≤ cap) :
    (Instr.sliceBounds b len cap (lo.map a.eval) (hi.map a.eval) none).run P w = .ok (l.toNat, r.toNat, cap) w := by
  have hlow : (match lo.map a.eval with | some v => Instr.sliceBound v r.toNat .sliceB | none => pure 0 : Sem Nat).run P w = .ok l.toNat w := by
    cases lo with
    | none => cases hl; rfl
    | some z =>
      obtain ⟨k, e⟩ := bnd_spec h hl
      have hm : max r 0 = r := by omega
      simp [Instr.sliceBound, e, asIntOf, h0, hm, h1]
  cases hi with
  | none =>
    cases hr
    simp only [Int.toNat_natCast] at hlow
    cases lo with
    | none => cases hl; simp [Instr.sliceBounds]
    | some z =>
      obtain ⟨k, e⟩ := bnd_spec h hl
      simp [Instr.sliceBounds, Instr.sliceBound, e, asIntOf, h0, h1]
  | some z =>
    obtain ⟨k, e⟩ := bnd_spec h hr
    have h3 : 0 ≤ r := by omega
    cases lo with
    | none => cases hl; cases b <;> simp [Instr.sliceBounds, Instr.sliceBound, e, asIntOf, h3, h2]
    | some z' =>
      obtain ⟨k', e'⟩ := bnd_spec h hl
      have hm : max r 0 = r := by omega
      cases b <;> simp [Instr.sliceBounds, Instr.sliceBound, e, e', asIntOf, h3, h2, h0, hm, h1]

theorem go_sliceStr (h : RelX x μ I s a w) {o : Oper} {t : TypeId} {y : Operand} {lo hi : Option Operand} (ho : o.op = .slice t y lo hi none) (hd : ∀ d, o.dst = some d → d < x.n) {d : TD} (ht : td P t = some d) (hk : d.k = .str)
    {b : ByteArray} (he : evE s.env y = some (sc (.string b))) {l r : Int} (hl : bndE s.env 0 lo = some l) (hr : bndE s.env b.size hi = some r) (h0 : 0 ≤ l) (h1 : l ≤ r) (h2 : r ≤ b.size) {ob : Prop} :
    Goes P x o a w (s.app o.dst ⟨some (sc (.string (b.extract l.toNat r.toNat))), [], false, ob⟩) := by
  have hy : a.eval y = .string b := sc_er (evE_spec h he)
  have hb := run_bounds (P := P) (b := false) h hl hr h0 h1 h2
  refine goes_val h hd (e := sc _) (v := .string _) ?_ (.v _ rfl)
  simp [execOp, ho, hy, Instr.sliceAt, Instr.slice, run_underlying (td_str ht hk), hb]

theorem SB.sub {xs : List (List C)} {b o k : Nat} {us : List Value} (h : SB w I xs b o k us) (i n : Nat) (hin : i + n ≤ xs.length) : SB w I ((xs.drop i).take n) b (o + i * k) k ((us.drop (i * k)).take (n * k)) := by
  have hk' : ∀ y ∈ (xs.drop i).take n, y.length = k := fun y hy => h.hk y (List.mem_of_mem_drop (List.mem_of_mem_take hy))
  have hul : us.length = xs.length * k := by rw [h.hl, flatten_length h.hk]
  have hlen : ((xs.drop i).take n).length = n := by simp; omega
  have hm : (i + n) * k ≤ xs.length * k := Nat.mul_le_mul_right _ hin
  rw [Nat.add_mul] at hm
  have e : ((xs.drop i).take n).flatten = (xs.flatten.drop (i * k)).take (n * k) := by
    apply List.ext_getElem?
    intro j
    by_cases hj : j < n * k
    · rw [List.getElem?_take_of_lt hj, List.getElem?_drop]
      have hkp : 0 < k := by
        rcases Nat.eq_zero_or_pos k with h0 | h0
        · rw [h0] at hj; omega
        · exact h0
      have hq : j / k < n := Nat.div_lt_of_lt_mul (by rw [Nat.mul_comm]; exact hj)
      have hy : xs[i + j / k]? = some (xs[i + j / k]'(by omega)) := List.getElem?_eq_getElem _
      have hy' : ((xs.drop i).take n)[j / k]? = some (xs[i + j / k]'(by omega)) := by
        rw [List.getElem?_take_of_lt hq, List.getElem?_drop, hy]
      have g1 := flatten_get hk' hy' (j % k) (Nat.mod_lt _ hkp)
      have g2 := flatten_get h.hk hy (j % k) (Nat.mod_lt _ hkp)
      have e1 : j / k * k + j % k = j := by rw [Nat.mul_comm]; exact Nat.div_add_mod j k
      have e2 : (i + j / k) * k + j % k = i * k + j := by rw [Nat.add_mul]; omega
      rw [e1] at g1; rw [e2] at g2
      rw [g1, g2]
    · rw [List.getElem?_take_eq_none (by omega), List.getElem?_eq_none (by rw [flatten_length hk', hlen]; omega)]
  refine ⟨hk', by rw [flatten_length hk', hlen]; simp; omega, fun j u hu => ?_, fun j y u hy hu => ?_⟩
  · rw [List.getElem?_take] at hu
    split at hu
    · rw [List.getElem?_drop] at hu
      have := h.hc _ u hu
      rwa [← Nat.add_assoc] at this
    · cases hu
  · rw [e] at hy
    rw [List.getElem?_take] at hu hy
    split at hu
    · rename_i hj
      rw [if_pos hj, List.getElem?_drop] at hy
      rw [List.getElem?_drop] at hu
      exact h.hr _ y u hy hu
    · cases hu

def Root.rowsk (r : Root) (k : Nat) : Prop := match r with
  | .row _ xs => ∀ c ∈ xs, c.length = k
  | .bx xs => ∀ c ∈ xs, c.length = k
  | .it _ _ => False
  | .mp _ => False

/-- A slice of a slice of elements of so many cells, from l to r. -/
def slE (rt : Nm → Option Root) (size : Nat) (l r : Int) : E → Option (E × Prop)
  | .x (.o (.c (.v (.slice none 0 0)))) => some (.x (.o (.c (.v (.slice none 0 0)))), 0 ≤ l ∧ l ≤ r ∧ r ≤ 0)
  | .x (.o (.c (.s xs))) => some (.x (.o (.c (.s ((xs.drop l.toNat).take (r.toNat - l.toNat))))), 0 ≤ l ∧ l ≤ r ∧ r.toNat ≤ xs.length ∧ ∀ c ∈ xs, c.length = size)
  | .x (.o (.h ρ i n m)) => match rt ρ with
    | some rr => if rr.len = m then some (.x (.o (.h ρ (i + l.toNat) (r.toNat - l.toNat) m)), 0 ≤ l ∧ l ≤ r ∧ r.toNat ≤ n ∧ rr.rowsk size) else none
    | none => none
  | _ => none

theorem go_slice (h : RelX x μ I s a w) {o : Oper} {t et : TypeId} {y : Operand} {lo hi : Option Operand} (ho : o.op = .slice t y lo hi none) (hd : ∀ d, o.dst = some d → d < x.n) {d de : TD} (ht : td P t = some d) (hk : d.k = .slice et) (hte : td P et = some de)
    {e : E} (he : evE s.env y = some e) {n : Nat} (hn : lenE s.rt e = some n) {l r : Int} (hl : bndE s.env 0 lo = some l) (hr : bndE s.env n hi = some r) {e' : E} {ob : Prop} (hs : slE s.rt de.size l r e = some (e', ob)) (hob : ob) {ob' : Prop} :
    Goes P x o a w (s.app o.dst ⟨some e', [], false, ob'⟩) := by
  have hR := evE_spec h he
  have hu := td_slice ht hk
  have run : ∀ (q : Option Addr) (c : Nat), a.eval y = .slice q n c → 0 ≤ l → l ≤ r → r ≤ n → n ≤ c →
      (execOp a.eval o).run P w = .ok (.value (.slice (if c = l.toNat then q else q.map (·.add (l.toNat * de.size))) (r.toNat - l.toNat) (c - l.toNat))) w := by
    intro q c e1 h0 h1 h2 h3
    have hb := run_bounds (P := P) (b := true) (len := n) (cap := c) h hl hr h0 h1 (by omega)
    simp [execOp, ho, e1, Instr.sliceAt, Instr.slice, run_underlying hu, hb, run_sizeOf hte]
  unfold slE at hs
  split at hs
  · cases hs
    have e1 : a.eval y = .slice none 0 0 := sc_er hR
    simp only [lenE, Option.some.injEq] at hn
    subst hn
    have := run none 0 e1 hob.1 hob.2.1 hob.2.2 (Nat.le_refl _)
    have e2 : l = 0 := by omega
    have e3 : r = 0 := by omega
    subst e2; subst e3
    exact goes_val h hd (e := sc _) this (.v _ rfl)
  · rename_i xs
    cases hs
    obtain ⟨h0, h1, h2, h3⟩ := hob
    obtain ⟨q, c, e1, hc, h4⟩ := CR.slice hR
    simp only [lenE, Option.some.injEq] at hn
    subst hn
    refine goes_val h hd (run q c e1 h0 h1 (by omega) hc) ?_
    have hlen : ((xs.drop l.toNat).take (r.toNat - l.toNat)).length = r.toNat - l.toNat := by simp; omega
    by_cases hz : r.toNat - l.toNat = 0
    · have : (xs.drop l.toNat).take (r.toNat - l.toNat) = [] := by rw [hz]; simp
      rw [this, hz]
      exact .nil _ _
    · rcases h4 with rfl | ⟨b, oo, k, us, rfl, h5⟩
      · simp at h2; omega
      · have hne : c ≠ l.toNat := by omega
        have hks : k = de.size := by
          cases xs with
          | nil => simp at h2; omega
          | cons y ys => rw [← h5.hk y (by simp), h3 y (by simp)]
        subst hks
        have h6 := (h5.sub l.toNat (r.toNat - l.toNat) (by omega)).cr (c := c - l.toNat) (by rw [hlen]; omega)
        rw [hlen] at h6
        simp only [hne, if_false, Option.map_some, Addr.add_lit]
        exact h6
  · rename_i ρ i n' m
    split at hs
    · rename_i rr hrr
      split at hs
      · rename_i hm
        cases hs
        obtain ⟨h0, h1, h2, h3⟩ := hob
        simp only [lenE, hrr, hm, if_true, Option.some.injEq] at hn
        subst hn
        obtain ⟨f, hf, hRR, hin, hH⟩ := handle_live h hR hrr hm
        have hcap : m ≤ f.cap := by
          subst hm
          cases rr with
          | row kk xs => obtain ⟨_, ⟨us, _, h3⟩, _⟩ := hRR; exact h3.cap
          | bx xs => obtain ⟨_, us, _, h3⟩ := hRR; exact h3.cap
          | it s p => exact h3.elim
          | mp es => exact h3.elim
        have hk1 : 0 < m → f.k = de.size := fun hpos => by
          subst hm
          cases rr with
          | row kk xs =>
            cases xs with
            | nil => simp [Root.len] at hpos
            | cons y ys => rw [← hRR.1 y (by simp), h3 y (by simp)]
          | bx xs =>
            cases xs with
            | nil => simp [Root.len] at hpos
            | cons y ys => rw [← hRR.1 y (by simp), h3 y (by simp)]
          | it s p => exact h3.elim
          | mp es => exact h3.elim
        have done : ∀ (u : Value), u.oneCell' = true → HR f (i + l.toNat) (r.toNat - l.toNat) u → ER w I μ s.L (.x (.o (.h ρ (i + l.toNat) (r.toNat - l.toNat) m))) u := fun u hu hH' =>
          ⟨hu, f, hf, fun k hk => by
            have : k = m := by simp [St.L, hrr] at hk; omega
            exact ⟨by omega, fun _ => ⟨by omega, hH'⟩⟩⟩
        rcases hH with ⟨rfl, hi, q, c, e1⟩ | ⟨hb, rfl, rfl, e1⟩ | ⟨b, c, hb, e1, hc⟩
        · have hl0 : l = 0 := by omega
          have hr0 : r = 0 := by omega
          subst hl0; subst hr0
          by_cases hcc : c < 0
          · omega
          · refine goes_val h hd (run q c e1 h0 h1 (by omega) (by omega)) (done _ rfl ?_)
            exact .inl ⟨rfl, by simpa using hi, _, _, rfl⟩
        · have hl0 : l = 0 := by omega
          have hr0 : r = 0 := by omega
          subst hl0; subst hr0
          exact goes_val h hd (run none 0 e1 h0 h1 (by omega) (by omega)) (done _ rfl (.inr (.inl ⟨hb, rfl, rfl, rfl⟩)))
        · refine goes_val h hd (run _ c e1 h0 h1 (by omega) (by omega)) (done _ rfl ?_)
          by_cases hz : c = l.toNat
          · rw [if_pos hz]
            have hzz : r.toNat - l.toNat = 0 := by omega
            by_cases hpos : 0 < i + l.toNat
            · exact .inl ⟨hzz, hpos, _, _, by rw [hzz]⟩
            · refine .inr (.inr ⟨b, c - l.toNat, hb, ?_, by omega⟩)
              have e2 : i = 0 := by omega
              have e3 : l.toNat = 0 := by omega
              rw [e2, e3]
          · rw [if_neg hz]
            refine .inr (.inr ⟨b, c - l.toNat, hb, ?_, by omega⟩)
            by_cases hpos : 0 < m
            · rw [← hk1 hpos, Nat.add_mul]
              simp [Addr.add_lit]
            · have e3 : l.toNat = 0 := by omega
              simp [e3, Addr.add_lit]
      · cases hs
    · cases hs
  · cases hs
end

end Go.Proofs.YtcgkhljolflenaaGreatW.V
