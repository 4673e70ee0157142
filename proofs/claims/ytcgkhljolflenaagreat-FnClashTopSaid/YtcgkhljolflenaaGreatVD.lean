/- What each kind of operation does to a plain state, borne out by the model's. No condition but each theorem's own. -/
import Derived.Test.YtcgkhljolflenaaGreatVC
namespace Go.Proofs.YtcgkhljolflenaaGreatW.V
open Go

section
variable {P : Program} {x : Ctx} {μ : Mu} {I : Imm} {s : St} {a : Act} {w : World}

theorem goes_new (h : RelX x μ I s a w) {o : Oper} {d : Nat} (hdst : o.dst = some d) (hd : d < x.n) (hu : s.used d = false) {w1 : World} (hw : Alk w w1) {cur : Array Value} {e k cap : Nat} {r : Root} {e0 : E} {u : Value}
    (hrun : (execOp a.eval o).run P w = .ok (.value u) (w1.alloc (.cells cur e)))
    (hr : ∀ w' μ' L', Stays w I w' I → Kept μ s.L μ' L' → w'.heap[w.heap.size]? = some (.cells cur e (0, 0)) → RR w' I μ' L' r ⟨some w.heap.size, e, k, cap⟩)
    (he : ∀ w' μ' L', Stays w I w' I → Kept μ s.L μ' L' → μ' (s.ep, 100 * d) = some ⟨some w.heap.size, e, k, cap⟩ → L' (s.ep, 100 * d) = some r.len → ER w' I μ' L' e0 u) {ob : Prop} :
    Goes P x o a w (s.app o.dst ⟨some e0, [((s.ep, 100 * d), some r)], true, ob⟩) := by
  have hn := h.new (j := 0) hd (by omega) hu hw hr he
  exact ⟨u, _, .inl hrun, _, I, by simpa [St.app, hdst] using hn⟩

/-- A box of its own. -/
theorem box_rr {w' : World} {μ' : Mu} {L' : Lens} {L : Lens} {ds : List D} {vs : List Value} (h : F2 (DR w I μ L) ds vs) (hs : Stays w I w' I) (hk : Kept μ L μ' L') {b e : Nat}
    (hh : w'.heap[b]? = some (.cells vs.toArray e (0, 0))) : RR w' I μ' L' (.bx [ds]) ⟨some b, e, vs.length, 1⟩ := by
  refine ⟨fun y hy => ?_, vs, ?_, ?_⟩
  · simp at hy; subst hy; exact F2.length h
  · simpa using F2.mono (fun _ _ => DR.mono hs hk) h
  · refine ⟨by simp, vs.toArray, hh, by simp, by simp [maxLen], by simp, by simp⟩

theorem ptr_er {w' : World} {μ' : Mu} {L' : Lens} {ρ : Nm} {b e k cap : Nat} {m : Nat} (hμ : μ' ρ = some ⟨some b, e, k, cap⟩) (hL : L' ρ = some m) (i o : Nat) (hc : cap ≤ maxLen) : ER w' I μ' L' (.x (.o (.p ρ i o m))) (.pointer (some ⟨b, i * k + o, none⟩)) :=
  ⟨rfl, _, hμ, fun l hl => by rw [hL] at hl; cases hl; exact ⟨Nat.le_refl _, fun _ => ⟨b, rfl, (ptV_le hc).symm⟩⟩⟩

/-! ### move, assign, pick -/
theorem go_move (h : RelX x μ I s a w) {o : Oper} {y : Operand} (ho : o.op = .move y ∨ o.op = .assign y) (hd : ∀ d, o.dst = some d → d < x.n) {e : E} (he : evE s.env y = some e) {ob : Prop} :
    Goes P x o a w (s.app o.dst ⟨some e, [], false, ob⟩) :=
  goes_val h hd (v := a.eval y) (by rcases ho with ho | ho <;> simp [execOp, ho]) (evE_spec h he)

def isB : E → Option Bool
  | .x (.o (.c (.v (.bool t)))) => some t
  | _ => none
theorem isB_spec {e : E} {t : Bool} (h : isB e = some t) : e = sc (.bool t) := by
  unfold isB at h; split at h <;> cases h; rfl
theorem sc_er {L : Lens} {v u : Value} (h : ER w I μ L (sc v) u) : u = v := by cases h; rfl

def pk (t : Bool) (y z : Option E) : Option E := match t with
  | true => y
  | false => z

theorem go_pick (h : RelX x μ I s a w) {o : Oper} {c y z : Operand} (ho : o.op = .pick c y z) (hd : ∀ d, o.dst = some d → d < x.n) {t : Bool} {ec e : E} (hc : evE s.env c = some ec) (hb : isB ec = some t)
    (he : pk t (evE s.env y) (evE s.env z) = some e) {ob : Prop} : Goes P x o a w (s.app o.dst ⟨some e, [], false, ob⟩) := by
  have hcv : a.eval c = .bool t := sc_er (isB_spec hb ▸ evE_spec h hc)
  refine goes_val h hd (v := if t then a.eval y else a.eval z) (by simp [execOp, ho, hcv, asBool]) ?_
  cases t
  · exact evE_spec h he
  · exact evE_spec h he

/-! ### alloc, box -/
theorem F2.sc {L : Lens} : ∀ {vs : List Value}, vs.all (·.oneCell') = true → F2 (DR w I μ L) (vs.map fun u => .c (.v u)) vs
  | [], _ => .nil
  | v :: vs, h => by
    simp only [List.all_cons, Bool.and_eq_true] at h
    exact .cons (.v v h.1) (F2.sc h.2)

theorem go_alloc (h : RelX x μ I s a w) {o : Oper} {t : TypeId} (ho : o.op = .alloc t) {q : Nat} (hdst : o.dst = some q) (hd : q < x.n) (hu : s.used q = false) {d : TD} (ht : td P t = some d) (hz : d.zero.all (·.oneCell') = true) {ob : Prop} :
    Goes P x o a w (s.app o.dst ⟨some (.x (.o (.p (s.ep, 100 * q) 0 0 1))), [((s.ep, 100 * q), some (.bx [d.zero.map fun u => .c (.v u)]))], true, ob⟩) := by
  obtain ⟨z, hz1, hz2⟩ := run_zeroValue (w := w) ht
  refine goes_new h hdst hd hu (Alk.refl w) (cur := z.cells) (e := t) (k := d.zero.length) (cap := 1) (u := .pointer (some ⟨w.heap.size, 0, none⟩))
    (by simp [execOp, ho, Instr.alloc, hz2, newVar, newRow]) (fun w' μ' L' hs hk hh => ?_) (fun w' μ' L' hs hk hμ hL => ?_)
  · have hh' : w'.heap[w.heap.size]? = some (.cells d.zero.toArray t (0, 0)) := by rw [hh, ← hz1]
    exact box_rr (F2.sc hz) hs hk hh'
  · simpa using ptr_er (I := I) (w' := w') (m := 1) hμ hL 0 0 (by decide)

def cellsA : A → List D
  | .o d => [d]
  | .a cs => cs

theorem cellsA_spec {L : Lens} {y : A} {u : Value} (h : AR w I μ L y u) : F2 (DR w I μ L) (cellsA y) u.cells.toList := by
  cases y with
  | o d =>
    have h1 := DR.one h
    have : u.cells.toList = [u] := by cases u <;> first | rfl | (simp [Value.oneCell'] at h1)
    rw [this]
    exact .cons h .nil
  | a cs => obtain ⟨us, rfl, h⟩ := h; simpa [Value.cells, cellsA] using h

def asA : E → Option A
  | .x y => some y
  | _ => none
theorem asA_spec {e : E} {y : A} (h : asA e = some y) : e = .x y := by unfold asA at h; split at h <;> cases h; rfl

theorem go_box (h : RelX x μ I s a w) {o : Oper} {t : TypeId} {y : Operand} (ho : o.op = .box t y) {q : Nat} (hdst : o.dst = some q) (hd : q < x.n) (hu : s.used q = false) {e : E} {y' : A} (he : evE s.env y = some e) (hy : asA e = some y') {ob : Prop} :
    Goes P x o a w (s.app o.dst ⟨some (.x (.o (.p (s.ep, 100 * q) 0 0 1))), [((s.ep, 100 * q), some (.bx [cellsA y']))], true, ob⟩) := by
  have hc := cellsA_spec (asA_spec hy ▸ evE_spec h he : ER w I μ s.L (.x y') (a.eval y))
  refine goes_new h hdst hd hu (Alk.refl w) (cur := (a.eval y).cells) (e := t) (k := (a.eval y).cells.toList.length) (cap := 1) (u := .pointer (some ⟨w.heap.size, 0, none⟩))
    (by simp [execOp, ho, Instr.box, newVar, newRow]) (fun w' μ' L' hs hk hh => ?_) (fun w' μ' L' hs hk hμ hL => ?_)
  · exact box_rr hc hs hk (by simpa using hh)
  · simpa using ptr_er (I := I) (w' := w') (m := 1) hμ hL 0 0 (by decide)

/-! ### load, store -/
def mkA (agg : Bool) (cs : List D) : Option A := match agg, cs with
  | true, cs => some (.a cs)
  | false, [y] => some (.o y)
  | false, _ => none

theorem mkA_spec {L : Lens} {agg : Bool} {cs : List D} {y : A} {us : List Value} (h : mkA agg cs = some y) (hr : F2 (DR w I μ L) cs us) : AR w I μ L y (asV agg us) ∧ (agg = false → ∃ v, us = [v]) := by
  unfold mkA at h
  split at h
  · cases h; exact ⟨⟨us, rfl, hr⟩, by simp⟩
  · cases h
    cases hr with
    | cons h1 h2 => cases h2; exact ⟨h1, fun _ => ⟨_, rfl⟩⟩
  · cases h

/-- What is loaded at a pointer. -/
def ldE (d : TD) (rt : Nm → Option Root) : E → Option A
  | .x (.o (.p ρ i o m)) => match rt ρ with
    | some r => if r.len = m ∧ i < m then match r.get i o d.size with
      | some cs => mkA d.agg cs
      | none => none else none
    | none => none
  | .x (.o (.e xs i o)) => match xs[i]? with
    | some c => if o + d.size ≤ c.length then mkA d.agg (((c.drop o).take d.size).map .c) else none
    | none => none
  | .x (.o (.c (.v (.pointer (some _))))) => if d.agg = true ∧ d.size = 0 then some (.a []) else none
  | _ => none

theorem run_load {e : E} {u : Value} {t : TypeId} {d : TD} (h : RelX x μ I s a w) (he : ER w I μ s.L e u) (ht : td P t = some d) {y : A} (hy : ldE d s.rt e = some y) :
    ∃ v, (Instr.loadAt t u).run P w = .ok v w ∧ AR w I μ s.L y v := by
  unfold ldE at hy
  split at hy
  · rename_i ρ i o m
    split at hy
    · rename_i r hr
      split at hy
      · rename_i hm
        split at hy
        · rename_i cs hg
          obtain ⟨f, hf, hR, _⟩ := h.root ρ r hr
          obtain ⟨b, us, hb, h1, h2, h3⟩ := hR.get hg (by omega)
          obtain ⟨_, f', hf', hp⟩ := he
          rw [hf] at hf'; cases hf'
          obtain ⟨b', hb', rfl⟩ := (hp m (by simp [St.L, hr, hm.1])).2 rfl
          rw [hb] at hb'; cases hb'
          obtain ⟨hA, hA1⟩ := mkA_spec hy h1
          rw [ptV_le (hR.cap (Root.get_plen hg) hb)]
          exact ⟨_, by simp [Instr.loadAt, Instr.sureAddr, run_loadV ht h2 h3 hA1], hA⟩
        · cases hy
      · cases hy
    · cases hy
  · rename_i xs i o
    split at hy
    · rename_i c hc
      split at hy
      · rename_i hon
        obtain ⟨b, oo, k, us, hb, rfl⟩ := he
        obtain ⟨vs, h1, h2, h3⟩ := hb.get hc hon
        have h1' : F2 (DR w I μ s.L) (((c.drop o).take d.size).map .c) vs := by simpa using F2.map (S := DR w I μ s.L) D.c id (fun _ _ h => h) h1
        obtain ⟨hA, hA1⟩ := mkA_spec hy h1'
        exact ⟨_, by simp [Instr.loadAt, Instr.sureAddr, run_loadV ht h2 (fun j v hv => (h3 j v hv).1) hA1], hA⟩
      · cases hy
    · cases hy
  · split at hy
    · rename_i p hd
      cases hy
      have hu : u = .pointer (some p) := by cases he; rfl
      subst hu
      refine ⟨.agg #[], ?_, [], rfl, .nil⟩
      simp only [Instr.loadAt, Instr.sureAddr, loadVar, Sem.run_bind, Sem.run_pure, Result.andThen_ok, run_isAgg ht, hd.1, if_true, run_sizeOf ht, hd.2]
      rfl
    · cases hy
  · cases hy

theorem go_load (h : RelX x μ I s a w) {o : Oper} {t : TypeId} {y : Operand} (ho : o.op = .load t y) (hd : ∀ d, o.dst = some d → d < x.n) {e : E} (he : evE s.env y = some e) {d : TD} (ht : td P t = some d) {z : A} (hz : ldE d s.rt e = some z) {ob : Prop} :
    Goes P x o a w (s.app o.dst ⟨some (.x z), [], false, ob⟩) := by
  obtain ⟨v, h1, h2⟩ := run_load h (evE_spec h he) ht hz
  exact goes_val h hd (e := .x z) (v := v) (by simp [execOp, ho, h1]) h2

def stE (rt : Nm → Option Root) (cs : List D) : E → Option (Nm × Root)
  | .x (.o (.p ρ i o m)) => match rt ρ with
    | some r => if r.len = m ∧ i < m then match r.set i o cs with
      | some r' => some (ρ, r')
      | none => none else none
    | none => none
  | _ => none

theorem go_store (h : RelX x μ I s a w) {o : Oper} {t : TypeId} {p y : Operand} (ho : o.op = .store t p y) (hdst : o.dst = none) {ep ey : E} (hp : evE s.env p = some ep) (hy : evE s.env y = some ey) {ya : A} (hya : asA ey = some ya)
    {d : TD} (ht : td P t = some d) (hsz : (cellsA ya).length = d.size) {ρ : Nm} {r' : Root} (hs : stE s.rt (cellsA ya) ep = some (ρ, r')) {ob : Prop} : Goes P x o a w (s.app o.dst ⟨none, [(ρ, some r')], false, ob⟩) := by
  have hyr : AR w I μ s.L ya (a.eval y) := (asA_spec hya ▸ evE_spec h hy : ER w I μ s.L (.x ya) (a.eval y))
  have hc := cellsA_spec hyr
  have hpr := evE_spec h hp
  unfold stE at hs
  split at hs
  · rename_i σ i oo m
    split at hs
    · rename_i r hr
      split at hs
      · rename_i hm
        split at hs
        · rename_i r1 hset
          cases hs
          obtain ⟨f, hf, hR, _⟩ := h.root ρ r hr
          obtain ⟨b, cur, hb, hh, hle, hput⟩ := hR.put hset hc
          obtain ⟨_, f', hf', hq⟩ := hpr
          rw [hf] at hf'; cases hf'
          obtain ⟨b', hb', hpv⟩ := (hq m (by simp [St.L, hr, hm.1])).2 rfl
          rw [hb] at hb'; cases hb'
          rw [ptV_le (hR.cap (Root.set_plen hset) hb)] at hpv
          have hcl : (a.eval y).cells.toList.length = d.size := by rw [← F2.length hc]; exact hsz
          have hrun := run_storeV ht (o := i * f.k + oo) hh (v := a.eval y) rfl hcl hle (fun u hu => by
            obtain ⟨j, hj⟩ := List.getElem?_of_mem hu
            have hlt : j < (cellsA ya).length := by rw [F2.length hc]; exact (List.getElem?_eq_some_iff.1 hj).1
            obtain ⟨v, hv, hvr⟩ := F2.get hc j _ (List.getElem?_eq_getElem hlt)
            rw [hj] at hv; cases hv
            exact DR.one hvr)
          refine ⟨undef, _, .inr ⟨by simp only [execOp, ho, hpv, Instr.storeAt, Instr.sureAddr, Sem.run_bind, Sem.run_pure, Result.andThen_ok, hrun]; rfl, rfl⟩, μ, I, ?_⟩
          rw [hdst]
          have hmod := h.mod hr (Root.set_len hset) hf hb (w' := w.setRow b (sp cur.toList (i * f.k + oo) (a.eval y).cells.toList).toArray)
            ⟨rfl, rfl, rfl, by simp [World.setRow], fun k _ hk => setRow_other w b k _ hk⟩ (fun hst => hput _ (setRow_heap w b cur _ f.e _ hh) hst)
          simpa [St.app, Act.put] using hmod
        · cases hs
      · cases hs
    · cases hs
  · cases hs
end

end Go.Proofs.YtcgkhljolflenaaGreatW.V
