/- Single changes of a plain state, borne out by the world's. No condition but each theorem's own. -/
import Derived.Test.YtcgkhljolflenaaGreatVB
namespace Go.Proofs.YtcgkhljolflenaaGreatW.V
open Go

section
variable {x : Ctx} {μ : Mu} {I : Imm} {s : St} {a : Act} {w : World}

theorem tmps_put_same {a : Act} {d : Nat} {v : Value} (h : d < a.tmps.size) : (a.put (some d) v).tmps[d]? = some v := by
  simp [Act.put, h]
theorem tmps_put_ne {a : Act} {d i : Nat} {v : Value} (h : i ≠ d) : (a.put (some d) v).tmps[i]? = a.tmps[i]? := by
  simp [Act.put, Array.getElem?_setIfInBounds_ne (Ne.symm h)]

/-- The worlds are alike but for draws. -/
structure Alk (w w' : World) : Prop where
  heap : w'.heap = w.heap
  os : w'.os = w.os
  tape : w'.tape = w.tape
  output : w'.output = w.output

theorem Alk.refl (w : World) : Alk w w := ⟨rfl, rfl, rfl, rfl⟩
theorem Alk.cell {w w' : World} (h : Alk w w') (p : Addr) : w'.cell? p = w.cell? p := by simp [World.cell?, h.heap]

theorem RelX.alk (h : RelX x μ I s a w) {w' : World} (hw : Alk w w') : RelX x μ I s a w' := by
  refine h.master (S := fun _ => False) ⟨hw.os, hw.tape, hw.output, by rw [hw.heap]; exact Nat.le_refl _, fun k _ _ => by rw [hw.heap]⟩ (fun _ h _ => h.elim) (fun _ _ h => h) (fun _ _ h => .inl h) (Kept.refl _ _) rfl rfl
    (fun _ i e he => .inl ⟨he, rfl⟩) (fun _ ρ r hr => .inl ⟨hr, rfl, fun f b hf hb => ⟨fun h => h, ?_⟩⟩) h.apart h.fresh
  obtain ⟨f', hf', _, h3⟩ := h.root ρ r hr
  rw [hf] at hf'; cases hf'
  exact (h3 b hb).2.1

/-- A slot is set. -/
theorem RelX.put (h : RelX x μ I s a w) {d : Nat} (hd : d < x.n) {e : E} {u : Value} (he : ER w I μ s.L e u) : RelX x μ I { s with env := upd s.env d (some e) } (a.put (some d) u) w := by
  refine h.master (S := fun _ => False) (Gr.refl w _) (fun _ h _ => h.elim) (fun _ _ h => h) (fun _ _ h => .inl h) (Kept.refl _ _) rfl (by simp [Act.put])
    (fun _ i e' he' => ?_) (fun _ ρ r hr => .inl ⟨hr, rfl, fun f b hf hb => ⟨fun h => h, ?_⟩⟩) h.apart h.fresh
  · simp only [upd] at he'
    split at he'
    · rename_i hi
      cases he'; subst hi
      exact .inr ⟨u, tmps_put_same (by rw [h.tsize]; exact hd), he⟩
    · rename_i hi
      exact .inl ⟨he', tmps_put_ne hi⟩
  · obtain ⟨f', hf', _, h3⟩ := h.root ρ r hr
    rw [hf] at hf'; cases hf'
    exact (h3 b hb).2.1

/-- A slot is forgotten, whatever is put in it. -/
theorem RelX.drop (h : RelX x μ I s a w) (d : Option Nat) (u : Value) : RelX x μ I { s with env := match d with | some d => upd s.env d none | none => s.env } (a.put d u) w := by
  cases d with
  | none => exact h
  | some d =>
    refine h.master (S := fun _ => False) (Gr.refl w _) (fun _ h _ => h.elim) (fun _ _ h => h) (fun _ _ h => .inl h) (Kept.refl _ _) rfl (by simp [Act.put])
      (fun _ i e' he' => ?_) (fun _ ρ r hr => .inl ⟨hr, rfl, fun f b hf hb => ⟨fun h => h, ?_⟩⟩) h.apart h.fresh
    · simp only [upd] at he'
      split at he'
      · cases he'
      · rename_i hi
        exact .inl ⟨he', tmps_put_ne hi⟩
    · obtain ⟨f', hf', _, h3⟩ := h.root ρ r hr
      rw [hf] at hf'; cases hf'
      exact (h3 b hb).2.1

/-- What the relation tells of a name that may yet be given. -/
theorem RelX.free (h : RelX x μ I s a w) {d j : Nat} (hj : j < 100) (hu : s.used d = false) : μ (s.ep, 100 * d + j) = none := by
  cases hm : μ (s.ep, 100 * d + j) with
  | none => rfl
  | some f =>
    rcases h.fresh _ _ f hm with h1 | ⟨_, h1⟩
    · omega
    · rw [show (100 * d + j) / 100 = d by omega, hu] at h1
      cases h1

/-- The next epoch: every name may be given. -/
theorem RelX.epoch (h : RelX x μ I s a w) : RelX x μ I { s with ep := s.ep + 1, used := fun _ => false } a w :=
  ⟨h.defers, h.tsize, h.env, h.root, h.apart, fun g c f hf => .inl (by rcases h.fresh g c f hf with h1 | ⟨h1, _⟩ <;> simp only [] <;> omega), h.imm0, h.immB, h.immN, h.gr, h.kept⟩

/-- A new root, by a new block, and a slot that is set. -/
theorem RelX.new (h : RelX x μ I s a w) {d j : Nat} (hd : d < x.n) (hj : j < 100) (hu : s.used d = false) {w1 : World} (hw : Alk w w1) {ob : Obj} {e k cap : Nat} {r : Root} {e0 : E} {u : Value}
    (hr : ∀ w' μ' L', Stays w I w' I → Kept μ s.L μ' L' → w'.heap[w.heap.size]? = some ob → RR w' I μ' L' r ⟨some w.heap.size, e, k, cap⟩)
    (he : ∀ w' μ' L', Stays w I w' I → Kept μ s.L μ' L' → μ' (s.ep, 100 * d + j) = some ⟨some w.heap.size, e, k, cap⟩ → L' (s.ep, 100 * d + j) = some r.len → ER w' I μ' L' e0 u) :
    RelX x (upd μ (s.ep, 100 * d + j) (some ⟨some w.heap.size, e, k, cap⟩)) I { s with env := upd s.env d (some e0), rt := upd s.rt (s.ep, 100 * d + j) (some r), used := upd s.used d true }
      (a.put (some d) u) (w1.alloc ob) := by
  have hfree := h.free hj hu
  have hK : Kept μ s.L (upd μ (s.ep, 100 * d + j) (some ⟨some w.heap.size, e, k, cap⟩)) (St.L { s with env := upd s.env d (some e0), rt := upd s.rt (s.ep, 100 * d + j) (some r), used := upd s.used d true }) := fun ρ f hf => by
    have hne : ρ ≠ (s.ep, 100 * d + j) := fun e => by rw [e, hfree] at hf; cases hf
    refine ⟨f, by rw [upd_ne _ _ hne]; exact hf, fun l' hl' => ⟨l', ?_, Nat.le_refl _, fun _ => rfl⟩⟩
    simpa [St.L, upd, hne] using hl'
  have hnew : (w1.alloc ob).heap[w.heap.size]? = some ob := by
    have := heap_alloc_new w1 ob
    rwa [hw.heap] at this
  have hold : ∀ k, k < w.heap.size → (w1.alloc ob).heap[k]? = w.heap[k]? := fun k hk => by
    rw [heap_alloc_old w1 _ (by rw [hw.heap]; exact hk), hw.heap]
  have hsz : (w1.alloc ob).heap.size = w.heap.size + 1 := by simp [hw.heap]
  refine h.master (w' := w1.alloc ob) (S := fun _ => False) ⟨hw.os, hw.tape, hw.output, by omega, fun k hk _ => hold k hk⟩ (fun _ h _ => h.elim) (fun _ _ h => h) (fun _ _ h => .inl h) hK rfl (by simp [Act.put])
    (fun hst i e' he' => ?_) (fun hst ρ r' hr' => ?_) (fun ρ ρ' f f' b h1 h2 h3 h4 h5 h6 => ?_) (fun g c f hf => ?_)
  · simp only [upd] at he'
    split at he'
    · rename_i hi
      cases he'; subst hi
      refine .inr ⟨u, tmps_put_same (by rw [h.tsize]; exact hd), he _ _ _ hst hK (upd_same _ _ _) (by simp [St.L, upd])⟩
    · rename_i hi
      exact .inl ⟨he', tmps_put_ne hi⟩
  · simp only [upd] at hr'
    split at hr'
    · rename_i hi
      cases hr'; subst hi
      refine .inr ⟨_, upd_same _ _ _, hr _ _ _ hst hK hnew, fun b hb => ?_⟩
      cases hb
      exact ⟨by omega, fun o ho => by have := h.immB _ _ ho; omega, .inr h.gr.size⟩
    · rename_i hi
      refine .inl ⟨hr', upd_ne _ _ hi, fun f b hf hb => ⟨fun h => h, ?_⟩⟩
      obtain ⟨f', hf', _, h3⟩ := h.root ρ r' hr'
      rw [hf] at hf'; cases hf'
      exact (h3 b hb).2.1
  · have old : ∀ ρ f b, upd s.rt (s.ep, 100 * d + j) (some r) ρ ≠ none → ρ ≠ (s.ep, 100 * d + j) → upd μ (s.ep, 100 * d + j) (some ⟨some w.heap.size, e, k, cap⟩) ρ = some f → f.b = some b → s.rt ρ ≠ none ∧ μ ρ = some f ∧ b < w.heap.size := by
      intro ρ f b h1 hne hf hb
      rw [upd_ne _ _ hne] at h1 hf
      obtain ⟨r', hr'⟩ := Option.ne_none_iff_exists'.1 h1
      obtain ⟨f', hf', _, h3⟩ := h.root ρ r' hr'
      rw [hf] at hf'; cases hf'
      exact ⟨h1, hf, (h3 b hb).1⟩
    by_cases e1 : ρ = (s.ep, 100 * d + j)
    · by_cases e2 : ρ' = (s.ep, 100 * d + j)
      · rw [e1, e2]
      · obtain ⟨_, _, hlt⟩ := old ρ' f' b h2 e2 h4 h6
        subst e1
        rw [upd_same] at h3; cases h3; cases h5
        omega
    · by_cases e2 : ρ' = (s.ep, 100 * d + j)
      · obtain ⟨_, _, hlt⟩ := old ρ f b h1 e1 h3 h5
        subst e2
        rw [upd_same] at h4; cases h4; cases h6
        omega
      · obtain ⟨a1, a2, _⟩ := old ρ f b h1 e1 h3 h5
        obtain ⟨b1, b2, _⟩ := old ρ' f' b h2 e2 h4 h6
        exact h.apart ρ ρ' f f' b a1 b1 a2 b2 h5 h6
  · by_cases hi : (g, c) = (s.ep, 100 * d + j)
    · cases hi
      exact .inr ⟨rfl, by rw [show (100 * d + j) / 100 = d by omega]; exact upd_same _ _ _⟩
    · rw [upd_ne _ _ hi] at hf
      rcases h.fresh g c f hf with h1 | ⟨h1, h2⟩
      · exact .inl h1
      · refine .inr ⟨h1, ?_⟩
        simp only [upd]
        split
        · rfl
        · exact h2

/-- A root's block is written, its length stays. -/
theorem RelX.mod (h : RelX x μ I s a w) {ρ : Nm} {r r' : Root} (hr : s.rt ρ = some r) (hl : r'.len = r.len) {f : Info} (hf : μ ρ = some f) {b : Nat} (hb : f.b = some b) {w' : World}
    (hw : Gr w w' (· = b)) (hR : Stays w I w' I → RR w' I μ s.L r' f) : RelX x μ I { s with rt := upd s.rt ρ (some r') } a w' := by
  have hL : St.L { s with rt := upd s.rt ρ (some r') } = s.L := by
    funext σ
    simp only [St.L, upd]
    split
    · rename_i e; subst e; simp [hr, hl]
    · rfl
  have hbb := h.root ρ r hr
  obtain ⟨f0, hf0, _, h3⟩ := hbb
  rw [hf] at hf0; cases hf0
  refine h.master (S := (· = b)) hw (fun k hk _ => by subst hk; exact ⟨(h3 k hb).2.2, (h3 k hb).2.1⟩) (fun _ _ h => h) (fun _ _ h => .inl h) (by rw [hL]; exact Kept.refl _ _) rfl rfl
    (fun _ i e he => .inl ⟨he, rfl⟩) (fun hst σ r1 hr1 => ?_) (fun σ σ' f1 f1' b1 h1 h2 h4 h5 h6 h7 => ?_) h.fresh
  · simp only [upd] at hr1
    split at hr1
    · rename_i e
      cases hr1; subst e
      refine .inr ⟨f, hf, by rw [hL]; exact hR hst, fun b' hb' => ?_⟩
      have := h3 b' hb'
      exact ⟨Nat.lt_of_lt_of_le this.1 hw.size, this.2⟩
    · rename_i hne
      refine .inl ⟨hr1, rfl, fun f' b' hf' hb' => ⟨fun e => hne ?_, ?_⟩⟩
      · subst e
        exact h.apart σ ρ f' f b' (by rw [hr1]; simp) (by rw [hr]; simp) hf' hf hb' hb
      · obtain ⟨f2, hf2, _, h4⟩ := h.root σ r1 hr1
        rw [hf'] at hf2; cases hf2
        exact (h4 b' hb').2.1
  · have nn : ∀ σ, upd s.rt ρ (some r') σ ≠ none → s.rt σ ≠ none := fun σ hσ => by
      simp only [upd] at hσ
      split at hσ
      · rename_i e; subst e; rw [hr]; simp
      · exact hσ
    exact h.apart σ σ' f1 f1' b1 (nn σ h1) (nn σ' h2) h4 h5 h6 h7
end

/-! ### Operands -/
def sc (v : Value) : E := .x (.o (.c (.v v)))

def ofV (v : Value) : Option E := match v with
  | .agg cs => if cs.toList.all (·.oneCell') then some (.x (.a (cs.toList.map fun u => .c (.v u)))) else none
  | .tuple _ => none
  | v => some (sc v)

def evE (env : Nat → Option E) : Operand → Option E
  | .tmp t => env t
  | .const v => ofV v
  | .global g => some (sc (.pointer (some ⟨g, 0, none⟩)))
  | .func f => some (sc (.func (.func f) #[] #[]))

theorem ofV_spec {w : World} {I : Imm} {μ : Mu} {L : Lens} {v : Value} {e : E} (h : ofV v = some e) : ER w I μ L e v := by
  unfold ofV at h
  split at h
  · rename_i cs
    split at h
    · rename_i hc
      cases h
      refine ⟨cs.toList, by simp, ?_⟩
      have hc' : ∀ u ∈ cs.toList, u.oneCell' = true := List.all_eq_true.1 hc
      generalize cs.toList = l at hc'
      induction l with
      | nil => exact .nil
      | cons u l ih => exact .cons (.v u (hc' u (by simp))) (ih fun v hv => hc' v (by simp [hv]))
    · cases h
  · cases h
  · rename_i h1 h2
    cases h
    refine .v v ?_
    cases v <;> first | rfl | exact absurd rfl (h1 _) | exact absurd rfl (h2 _)

theorem evE_spec {x : Ctx} {μ : Mu} {I : Imm} {s : St} {a : Act} {w : World} (h : RelX x μ I s a w) {o : Operand} {e : E} (he : evE s.env o = some e) : ER w I μ s.L e (a.eval o) := by
  cases o with
  | tmp t =>
    obtain ⟨u, hu, hr⟩ := h.env t e he
    have : a.eval (.tmp t) = u := by simp [Act.eval, hu]
    rw [this]; exact hr
  | const v => exact ofV_spec he
  | global g => cases he; exact .v _ rfl
  | func f => cases he; exact .v _ rfl

/-! ### What an operation does to a plain state -/
structure Eff where
  val : Option E
  rts : List (Nm × Option Root)
  new : Bool
  ob : Prop

def St.app (s : St) (dst : Option Nat) (f : Eff) : St where
  env := match dst with
    | some d => upd s.env d f.val
    | none => s.env
  rt := f.rts.foldl (fun g p => upd g p.1 p.2) s.rt
  ep := s.ep
  used := match f.new, dst with
    | true, some d => upd s.used d true
    | _, _ => s.used

/-- The operation, carried out, ends in the state that is told. -/
def Goes (P : Program) (x : Ctx) (o : Oper) (a : Act) (w : World) (s' : St) : Prop :=
  ∃ v w', ((execOp a.eval o).run P w = .ok (.value v) w' ∨ ((execOp a.eval o).run P w = .ok .skip w' ∧ v = undef)) ∧ Rel x s' (a.put o.dst v) w'

/-- A value, and the world as it was. -/
theorem goes_val {P : Program} {x : Ctx} {μ : Mu} {I : Imm} {s : St} {a : Act} {w : World} (h : RelX x μ I s a w) {o : Oper} {e : E} {v : Value} (hd : ∀ d, o.dst = some d → d < x.n)
    (hr : (execOp a.eval o).run P w = .ok (.value v) w) (he : ER w I μ s.L e v) {ob : Prop} : Goes P x o a w (s.app o.dst ⟨some e, [], false, ob⟩) := by
  refine ⟨v, w, .inl hr, μ, I, ?_⟩
  cases hdst : o.dst with
  | none => simpa [St.app, hdst, Act.put] using h
  | some d => simpa [St.app] using h.put (hd d hdst) he

/-- A value, and a draw more. -/
theorem goes_val' {P : Program} {x : Ctx} {μ : Mu} {I : Imm} {s : St} {a : Act} {w w1 : World} (h : RelX x μ I s a w) (hw : Alk w w1) {o : Oper} {e : E} {v : Value} (hd : ∀ d, o.dst = some d → d < x.n)
    (hr : (execOp a.eval o).run P w = .ok (.value v) w1) (he : ER w1 I μ s.L e v) {ob : Prop} : Goes P x o a w (s.app o.dst ⟨some e, [], false, ob⟩) := by
  refine ⟨v, w1, .inl hr, μ, I, ?_⟩
  cases hdst : o.dst with
  | none => simpa [St.app, hdst, Act.put] using h.alk hw
  | some d => simpa [St.app] using (h.alk hw).put (hd d hdst) he

end Go.Proofs.YtcgkhljolflenaaGreatW.V
