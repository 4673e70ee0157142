/- Slices, strings: reading. No condition but each theorem's own. -/
import Derived.Test.YtcgkhljolflenaaGreatVE
namespace Go.Proofs.YtcgkhljolflenaaGreatW.V
open Go

section
variable {P : Program} {x : Ctx} {μ : Mu} {I : Imm} {s : St} {a : Act} {w : World}

/-! ### A value as a list -/
def viewE (rt : Nm → Option Root) : E → Option (List (List C))
  | .x (.o (.c (.v (.slice none 0 0)))) => some []
  | .x (.o (.c (.s xs))) => some xs
  | .x (.o (.h ρ i n m)) => match rt ρ with
    | some (.row _ xs) => if xs.length = m then some ((xs.drop i).take n) else none
    | _ => none
  | _ => none

/-- The memory of a list that is read. -/
structure VB (w : World) (I : Imm) (xs : List (List C)) (b o k : Nat) (us : List Value) : Prop where
  hk : ∀ x ∈ xs, x.length = k
  hr : F2 (CR w I) xs.flatten us
  hc : ∀ (j : Nat) u, us[j]? = some u → w.cell? ⟨b, o + j, none⟩ = some u

theorem handle_live {ρ : Nm} {i n m : Nat} {u : Value} {r : Root} (h : RelX x μ I s a w) (he : ER w I μ s.L (.x (.o (.h ρ i n m))) u) (hr : s.rt ρ = some r) (hm : r.len = m) :
    ∃ f, μ ρ = some f ∧ RR w I μ s.L r f ∧ i + n ≤ m ∧ HR f i n u := by
  obtain ⟨f, hf, hR, _⟩ := h.root ρ r hr
  obtain ⟨_, f', hf', hq⟩ := he
  rw [hf] at hf'; cases hf'
  obtain ⟨_, h2⟩ := hq m (by simp [St.L, hr, hm])
  exact ⟨f, hf, hR, h2 rfl⟩

theorem Own.cap {f : Info} {n : Nat} {us : List Value} (h : Own w f n us) : n ≤ f.cap := by
  obtain ⟨_, h⟩ := h
  cases hb : f.b with
  | none => rw [hb] at h; omega
  | some b => rw [hb] at h; obtain ⟨_, _, h, _⟩ := h; exact h

theorem view_spec {e : E} {u : Value} {xs : List (List C)} (h : RelX x μ I s a w) (he : ER w I μ s.L e u) (hv : viewE s.rt e = some xs) :
    ∃ q c, u = .slice q xs.length c ∧ xs.length ≤ c ∧ (xs = [] ∨ ∃ b o k us, q = some ⟨b, o, none⟩ ∧ VB w I xs b o k us ∧
      ((∀ (j : Nat) u, us[j]? = some u → I b (o + j)) ∨ ∃ ρ i n m f, e = .x (.o (.h ρ i n m)) ∧ μ ρ = some f ∧ f.b = some b)) := by
  unfold viewE at hv
  split at hv
  · cases hv; cases he; exact ⟨none, 0, rfl, Nat.le_refl _, .inl rfl⟩
  · rename_i ys
    cases hv
    obtain ⟨q, c, e, hc, h1⟩ := CR.slice he
    refine ⟨q, c, e, hc, ?_⟩
    rcases h1 with h1 | ⟨b, o, k, us, h1, h2⟩
    · exact .inl h1
    · exact .inr ⟨b, o, k, us, h1, ⟨h2.hk, F2.of h2.hl.symm fun j x u hx hu => h2.hr j x u hx hu, fun j u hu => (h2.hc j u hu).1⟩, .inl fun j u hu => (h2.hc j u hu).2⟩
  · rename_i ρ i n m
    split at hv
    · rename_i r kk ys hr
      split at hv
      · rename_i hm
        cases hv
        obtain ⟨f, hf, hR, hin, hH⟩ := handle_live h he hr hm
        have hlen : ((ys.drop i).take n).length = n := by simp; omega
        obtain ⟨hk, ⟨us, h2, h3⟩, _⟩ := hR
        have hcap := h3.cap
        rcases hH with ⟨rfl, hi, q, c, rfl⟩ | ⟨hb, rfl, rfl, rfl⟩ | ⟨b, c, hb, rfl, hc⟩
        · exact ⟨q, c, by simp, by simp, .inl (by simp)⟩
        · exact ⟨none, 0, by simp, by simp, .inl (by simp)⟩
        · refine ⟨_, c, by rw [hlen], by rw [hlen]; omega, .inr ⟨b, i * f.k, f.k, (us.drop (i * f.k)).take (n * f.k), rfl, ⟨?_, ?_, ?_⟩, .inr ⟨ρ, i, n, m, f, rfl, hf, hb⟩⟩⟩
          · intro y hy
            exact hk y (List.mem_of_mem_drop (List.mem_of_mem_take hy))
          · have e : ((ys.drop i).take n).flatten = (ys.flatten.drop (i * f.k)).take (n * f.k) := by
              apply List.ext_getElem?
              intro j
              have hk' : ∀ y ∈ (ys.drop i).take n, y.length = f.k := fun y hy => hk y (List.mem_of_mem_drop (List.mem_of_mem_take hy))
              by_cases hj : j < n * f.k
              · rw [List.getElem?_take_of_lt hj, List.getElem?_drop]
                have hkp : 0 < f.k := by
                  rcases Nat.eq_zero_or_pos f.k with h0 | h0
                  · rw [h0] at hj; omega
                  · exact h0
                have hq : j / f.k < n := Nat.div_lt_of_lt_mul (by rw [Nat.mul_comm]; exact hj)
                have hy : ys[i + j / f.k]? = some (ys[i + j / f.k]'(by omega)) := List.getElem?_eq_getElem _
                have hy' : ((ys.drop i).take n)[j / f.k]? = some (ys[i + j / f.k]'(by omega)) := by
                  rw [List.getElem?_take_of_lt hq, List.getElem?_drop, hy]
                have g1 := flatten_get hk' hy' (j % f.k) (Nat.mod_lt _ hkp)
                have g2 := flatten_get hk hy (j % f.k) (Nat.mod_lt _ hkp)
                have e1 : j / f.k * f.k + j % f.k = j := by rw [Nat.mul_comm]; exact Nat.div_add_mod j f.k
                have e2 : (i + j / f.k) * f.k + j % f.k = i * f.k + j := by rw [Nat.add_mul]; omega
                rw [e1] at g1; rw [e2] at g2
                rw [g1, g2]
              · rw [List.getElem?_take_eq_none (by omega), List.getElem?_eq_none (by rw [flatten_length hk', hlen]; omega)]
            rw [e]
            exact F2.take _ (F2.drop _ h2)
          · intro j u hu
            rw [List.getElem?_take] at hu
            split at hu
            · rw [List.getElem?_drop] at hu
              obtain ⟨_, h4⟩ := h3
              rw [hb] at h4
              obtain ⟨cur, hh, _, _, _, ht⟩ := h4
              rw [cell_of_row hh]
              exact take_get ht hu
            · cases hu
      · cases hv
    · cases hv
  · cases hv

/-! ### len -/
def lenE (rt : Nm → Option Root) : E → Option Nat
  | .x (.o (.c (.v (.slice none 0 0)))) => some 0
  | .x (.o (.c (.s xs))) => some xs.length
  | .x (.o (.h ρ _ n m)) => match rt ρ with
    | some r => if r.len = m then some n else none
    | none => none
  | _ => none

theorem HR.slice {f : Info} {i n : Nat} {u : Value} (h : HR f i n u) : ∃ q c, u = .slice q n c := by
  rcases h with ⟨rfl, _, q, c, rfl⟩ | ⟨_, _, rfl, rfl⟩ | ⟨b, c, _, rfl, _⟩ <;> exact ⟨_, _, rfl⟩

theorem lenE_spec {e : E} {u : Value} {n : Nat} (h : RelX x μ I s a w) (he : ER w I μ s.L e u) (hn : lenE s.rt e = some n) : ∃ q c, u = .slice q n c := by
  unfold lenE at hn
  split at hn
  · cases hn; cases he; exact ⟨_, _, rfl⟩
  · cases hn
    obtain ⟨q, c, e1, _⟩ := CR.slice he
    exact ⟨q, c, e1⟩
  · split at hn
    · rename_i r hrr
      split at hn
      · rename_i hm
        cases hn
        obtain ⟨f, _, _, _, hH⟩ := handle_live h he hrr hm
        exact hH.slice
      · cases hn
    · cases hn
  · cases hn

theorem go_len (h : RelX x μ I s a w) {o : Oper} {y : Operand} {ts : Array TypeId} (ho : o.op = .call { callee := .builtin .len, args := #[y], argTypes := ts }) (hd : ∀ d, o.dst = some d → d < x.n) {t : TypeId} (hts : ts[0]? = some t) {d : TD}
    (ht : td P t = some d) {et : TypeId} (hk : d.k = .slice et) {e : E} (he : evE s.env y = some e) {n : Nat} (hn : lenE s.rt e = some n) {ob : Prop} :
    Goes P x o a w (s.app o.dst ⟨some (sc (.int .i64 n)), [], false, ob⟩) := by
  obtain ⟨q, c, e1⟩ := lenE_spec h (evE_spec h he) hn
  have key : (Builtin.len_ ts o.type #[a.eval y]).run P w = .ok (.int .i64 n) w := by
    simp [Builtin.len_, hts, run_underlying (td_slice ht hk), e1, goInt]
  refine goes_val h hd (e := sc _) (v := .int .i64 n) ?_ (.v _ rfl)
  simp only [execOp, ho, resolve, invoke, builtin, Sem.run_bind, Sem.run_pure, Result.andThen_ok, List.map_toArray, List.map_cons, List.map_nil, key]

theorem go_lenStr (h : RelX x μ I s a w) {o : Oper} {y : Operand} {ts : Array TypeId} (ho : o.op = .call { callee := .builtin .len, args := #[y], argTypes := ts }) (hd : ∀ d, o.dst = some d → d < x.n) {t : TypeId} (hts : ts[0]? = some t) {d : TD}
    (ht : td P t = some d) (hk : d.k = .str) {b : ByteArray} (he : evE s.env y = some (sc (.string b))) {ob : Prop} :
    Goes P x o a w (s.app o.dst ⟨some (sc (.int .i64 b.size)), [], false, ob⟩) := by
  have e1 : a.eval y = .string b := sc_er (evE_spec h he)
  have key : (Builtin.len_ ts o.type #[a.eval y]).run P w = .ok (.int .i64 b.size) w := by
    simp [Builtin.len_, hts, run_underlying (td_str ht hk), e1, goInt]
  refine goes_val h hd (e := sc _) (v := .int .i64 b.size) ?_ (.v _ rfl)
  simp only [execOp, ho, resolve, invoke, builtin, Sem.run_bind, Sem.run_pure, Result.andThen_ok, List.map_toArray, List.map_cons, List.map_nil, key]

/-! ### indexAddr -/
def Root.klen (r : Root) (i : Nat) : Option Nat := match r with
  | .row _ xs => match xs[i]? with
    | some c => some c.length
    | none => none
  | .bx xs => match xs[i]? with
    | some c => some c.length
    | none => none
  | .it _ _ => none
  | .mp _ => none
theorem klen_plen {r : Root} {i k : Nat} (h : r.klen i = some k) : r.plen = some r.len := by
  cases r with
  | mp es => cases h
  | _ => rfl

theorem klen_spec {μ' : Mu} {L : Lens} {r : Root} {f : Info} {i k : Nat} (h : RR w I μ' L r f) (hk : r.klen i = some k) : k = f.k ∧ i < r.len := by
  unfold Root.klen at hk
  split at hk
  · split at hk
    · rename_i c hc
      cases hk
      exact ⟨h.1 c (List.mem_of_getElem? hc), (List.getElem?_eq_some_iff.1 hc).1⟩
    · cases hk
  · split at hk
    · rename_i c hc
      cases hk
      exact ⟨h.1 c (List.mem_of_getElem? hc), (List.getElem?_eq_some_iff.1 hc).1⟩
    · cases hk
  · cases hk
  · cases hk

/-- The pointer to element i (as an int) of a slice of elements of so many cells. -/
def ixE (rt : Nm → Option Root) (size : Nat) (i : Int) : E → Option (E × Prop)
  | .x (.o (.c (.s xs))) => match xs[i.toNat]? with
    | some c => if c.length = size then some (.x (.o (.e xs i.toNat 0)), 0 ≤ i) else none
    | none => none
  | .x (.o (.h ρ j n m)) => match rt ρ with
    | some r => if r.len = m then match r.klen (j + i.toNat) with
      | some k => if k = size then some (.x (.o (.p ρ (j + i.toNat) 0 m)), 0 ≤ i ∧ i.toNat < n) else none
      | none => none else none
    | none => none
  | _ => none

theorem go_indexAddr (h : RelX x μ I s a w) {o : Oper} {t et : TypeId} {y z : Operand} (ho : o.op = .indexAddr t y z) (hd : ∀ d, o.dst = some d → d < x.n) {d de : TD} (ht : td P t = some d) (hk : d.k = .slice et) (hte : td P et = some de)
    {e ei : E} (he : evE s.env y = some e) (hi : evE s.env z = some ei) {ik : IntKind} {i : Int} (hii : isI ei = some (ik, i)) {e' : E} {ob : Prop} (hx : ixE s.rt de.size i e = some (e', ob)) (hob : ob) {ob' : Prop} :
    Goes P x o a w (s.app o.dst ⟨some e', [], false, ob'⟩) := by
  have hr := evE_spec h he
  have hz : a.eval z = .int ik i := sc_er (isI_spec hii ▸ evE_spec h hi)
  have hu := td_slice ht hk
  have run : ∀ (b n c oo : Nat), a.eval y = .slice (some ⟨b, oo, none⟩) n c → 0 ≤ i → i < n → (execOp a.eval o).run P w = .ok (.value (.pointer (some ⟨b, oo + i.toNat * de.size, none⟩))) w := by
    intro b n c oo e1 h0 h1
    simp [execOp, ho, e1, hz, Instr.indexAt, asIntOf, run_underlying hu, h0, h1, run_sizeOf hte, Addr.add_lit]
  unfold ixE at hx
  split at hx
  · rename_i xs
    split at hx
    · rename_i c hc
      split at hx
      · rename_i hcl
        cases hx
        obtain ⟨q, cc, e1, _, h1⟩ := CR.slice hr
        have hlt : i.toNat < xs.length := (List.getElem?_eq_some_iff.1 hc).1
        rcases h1 with h1 | ⟨b, oo, k, us, rfl, h2⟩
        · subst h1; simp at hlt
        · refine goes_val h hd (e := .x (.o (.e xs i.toNat 0))) (run b _ _ oo e1 hob (by omega)) ⟨b, oo, k, us, h2, ?_⟩
          have : c.length = k := h2.hk c (List.mem_of_getElem? hc)
          simp [← this, hcl]
      · cases hx
    · cases hx
  · rename_i ρ j n m
    split at hx
    · rename_i r hrr
      split at hx
      · rename_i hm
        split at hx
        · rename_i k hkl
          split at hx
          · rename_i hks
            cases hx
            obtain ⟨f, hf, hR, hin, hH⟩ := handle_live h hr hrr hm
            obtain ⟨hkf, hlt⟩ := klen_spec hR hkl
            rcases hH with ⟨rfl, _⟩ | ⟨_, _, rfl, _⟩ | ⟨b, c, hb, e1, hc⟩
            · omega
            · omega
            · refine goes_val h hd (e := .x (.o (.p ρ (j + i.toNat) 0 m))) (run b _ _ _ e1 hob.1 (by omega)) ⟨rfl, f, hf, fun l hl => ?_⟩
              have : l = m := by simp [St.L, hrr] at hl; omega
              refine ⟨by omega, fun _ => ⟨b, hb, ?_⟩⟩
              rw [ptV_le (hR.cap (klen_plen hkl) hb), ← hks, hkf, Nat.add_mul]
              rfl
          · cases hx
        · cases hx
      · cases hx
    · cases hx
  · cases hx

theorem go_indexAddrArr (h : RelX x μ I s a w) {o : Oper} {t et : TypeId} {y z : Operand} {n : Nat} (ho : o.op = .indexAddr t y z) (hd : ∀ d, o.dst = some d → d < x.n) {d de : TD} (ht : td P t = some d) (hk : d.k = .arr n et) (hte : td P et = some de)
    {e ei : E} (he : evE s.env y = some e) (hl : liveP s.rt e) (hi : evE s.env z = some ei) {ik : IntKind} {i : Int} (hii : isI ei = some (ik, i)) {e' : E} (hx : addP (i.toNat * de.size) e = some e') (h0 : 0 ≤ i) (h1 : i < n) {ob' : Prop} :
    Goes P x o a w (s.app o.dst ⟨some e', [], false, ob'⟩) := by
  have hr := evE_spec h he
  have hz : a.eval z = .int ik i := sc_er (isI_spec hii ▸ evE_spec h hi)
  have hu := td_arr ht hk
  obtain ⟨q, hq, hs⟩ := live_ptr h hr hl
  have h2 := addP_spec h hr hq hs hl hx
  obtain ⟨qb, qo, qs⟩ := q
  simp only at hs; subst hs
  refine goes_val h hd ?_ h2
  simp [execOp, ho, hq, hz, Instr.indexAt, asIntOf, run_underlying hu, h0, h1, run_sizeOf hte, Addr.add_lit, Instr.sureAddr]

/-! ### index -/
theorem go_indexStr (h : RelX x μ I s a w) {o : Oper} {t : TypeId} {y z : Operand} (ho : o.op = .index t y z) (hd : ∀ d, o.dst = some d → d < x.n) {d : TD} (ht : td P t = some d) (hk : d.k = .str)
    {b : ByteArray} {ei : E} (he : evE s.env y = some (sc (.string b))) (hi : evE s.env z = some ei) {ik : IntKind} {i : Int} (hii : isI ei = some (ik, i)) (h0 : 0 ≤ i) {c : UInt8} (hc : b.data.toList[i.toNat]? = some c) {ob' : Prop} :
    Goes P x o a w (s.app o.dst ⟨some (sc (.int .u8 c.toNat)), [], false, ob'⟩) := by
  have hy : a.eval y = .string b := sc_er (evE_spec h he)
  have hz : a.eval z = .int ik i := sc_er (isI_spec hii ▸ evE_spec h hi)
  have hlt : i.toNat < b.size := by have := (List.getElem?_eq_some_iff.1 hc).1; simpa using this
  have hb : b[i.toNat]? = some c := by
    have h2 := (List.getElem?_eq_some_iff.1 hc).2
    rw [getElem?_pos b i.toNat hlt, ← h2]; rfl
  refine goes_val h hd (e := sc _) (v := .int .u8 c.toNat) ?_ (.v _ rfl)
  simp [execOp, ho, hy, hz, Instr.index, asIntOf, run_underlying (td_str ht hk), h0, hb]

theorem go_indexArr (h : RelX x μ I s a w) {o : Oper} {t et : TypeId} {y z : Operand} {n : Nat} (ho : o.op = .index t y z) (hd : ∀ d, o.dst = some d → d < x.n) {d de : TD} (ht : td P t = some d) (hk : d.k = .arr n et) (hte : td P et = some de)
    {cs : List D} {ei : E} (he : evE s.env y = some (.x (.a cs))) (hi : evE s.env z = some ei) {ik : IntKind} {i : Int} (hii : isI ei = some (ik, i)) (h0 : 0 ≤ i) (h1 : i < n) {v : A} (hv : partA de (i.toNat * de.size) cs = some v) {ob' : Prop} :
    Goes P x o a w (s.app o.dst ⟨some (.x v), [], false, ob'⟩) := by
  obtain ⟨us, hy, hr⟩ := evE_spec h he
  have hz : a.eval z = .int ik i := sc_er (isI_spec hii ▸ evE_spec h hi)
  obtain ⟨u, hu, hur⟩ := run_part hte hr hv
  refine goes_val h hd (e := .x v) (v := u) ?_ hur
  simp [execOp, ho, hy, hz, Instr.index, asIntOf, run_underlying (td_arr ht hk), h0, h1, run_sizeOf hte, hu]
end

end Go.Proofs.YtcgkhljolflenaaGreatW.V
