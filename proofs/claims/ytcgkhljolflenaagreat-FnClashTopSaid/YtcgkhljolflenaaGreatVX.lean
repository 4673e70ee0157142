/- Code, computed over plain states. No condition but each theorem's own. -/
import Derived.Test.YtcgkhljolflenaaGreatVFz
namespace Go.Proofs.YtcgkhljolflenaaGreatW.V
open Go

/-! ### Static checks -/
def anOf (an : List (Nat × List Nat)) (id : Nat) : List Nat := match lk an id with
  | some T => T
  | none => []
def wfCode (an : List (Nat × List Nat)) (n : Nat) : Code → Bool
  | .region id ops draw => wfDst n [] ops.toList && match draw with
    | true => drawOk (anOf an id) ops
    | false => true
  | .seq a b => wfCode an n a && wfCode an n b
  | .cond _ a b => wfCode an n a && wfCode an n b
  | .block _ a => wfCode an n a
  | .loop a => wfCode an n a
  | _ => true

/-! ### Other names -/
def gD (g : Nm → Nm) : D → D
  | .c y => .c y
  | .h ρ i n m => .h (g ρ) i n m
  | .p ρ i o m => .p (g ρ) i o m
  | .e xs i o => .e xs i o
def gA (g : Nm → Nm) : A → A
  | .o d => .o (gD g d)
  | .a cs => .a (cs.map (gD g))
def gE (g : Nm → Nm) : E → E
  | .x y => .x (gA g y)
  | .t vs => .t (vs.map (gA g))
def gR (g : Nm → Nm) : Root → Root
  | .row k xs => .row k xs
  | .bx xs => .bx (xs.map (List.map (gD g)))
  | .it b p => .it b p
  | .mp es => .mp es

theorem gR_len (g : Nm → Nm) (r : Root) : (gR g r).len = r.len := by cases r <;> simp [gR, Root.len]

section
variable {w : World} {I : Imm} {μ μ' : Mu} {L L' : Lens} {g : Nm → Nm}

theorem gD_spec (hμ : ∀ ρ f, μ ρ = some f → ∃ f', μ' (g ρ) = some f' ∧ ∀ l, L' (g ρ) = some l → L ρ = some l ∧ f' = f) {d : D} {u : Value} (h : DR w I μ L d u) : DR w I μ' L' (gD g d) u := by
  cases d with
  | c y => exact h
  | h ρ i n m =>
    obtain ⟨h0, f, hf, h1⟩ := h
    obtain ⟨f', hf', h2⟩ := hμ ρ f hf
    exact ⟨h0, f', hf', fun l hl => by obtain ⟨h3, rfl⟩ := h2 l hl; exact h1 l h3⟩
  | p ρ i o m =>
    obtain ⟨h0, f, hf, h1⟩ := h
    obtain ⟨f', hf', h2⟩ := hμ ρ f hf
    exact ⟨h0, f', hf', fun l hl => by obtain ⟨h3, rfl⟩ := h2 l hl; exact h1 l h3⟩
  | e xs i o => exact h


theorem gA_spec (hμ : ∀ ρ f, μ ρ = some f → ∃ f', μ' (g ρ) = some f' ∧ ∀ l, L' (g ρ) = some l → L ρ = some l ∧ f' = f) {y : A} {u : Value} (h : AR w I μ L y u) : AR w I μ' L' (gA g y) u := by
  cases y with
  | o d => exact gD_spec hμ h
  | a cs => obtain ⟨us, e, h2⟩ := h; exact ⟨us, e, F2.mapl (R := DR w I μ L) (S := DR w I μ' L') _ (fun _ _ h => gD_spec hμ h) h2⟩

theorem gE_spec (hμ : ∀ ρ f, μ ρ = some f → ∃ f', μ' (g ρ) = some f' ∧ ∀ l, L' (g ρ) = some l → L ρ = some l ∧ f' = f) {y : E} {u : Value} (h : ER w I μ L y u) : ER w I μ' L' (gE g y) u := by
  cases y with
  | x y => exact gA_spec hμ h
  | t vs => obtain ⟨us, e, h2⟩ := h; exact ⟨us, e, F2.mapl (R := AR w I μ L) (S := AR w I μ' L') _ (fun _ _ h => gA_spec hμ h) h2⟩

theorem gR_spec (hμ : ∀ ρ f, μ ρ = some f → ∃ f', μ' (g ρ) = some f' ∧ ∀ l, L' (g ρ) = some l → L ρ = some l ∧ f' = f) {r : Root} {f : Info} (h : RR w I μ L r f) : RR w I μ' L' (gR g r) f := by
  cases r with
  | row k xs => exact h
  | bx xs =>
    obtain ⟨h1, us, h2, h3⟩ := h
    refine ⟨fun y hy => ?_, us, ?_, by simpa using h3⟩
    · obtain ⟨z, hz, rfl⟩ := List.mem_map.1 hy
      simpa using h1 z hz
    · rw [map_flatten']
      exact F2.mapl (R := DR w I μ L) (S := DR w I μ' L') _ (fun _ _ h => gD_spec hμ h) h2
  | it b p => exact h
  | mp es => exact h
end

def deadN : Nm := (1, 99)
def rnN (ns : List Nm) (ρ : Nm) : Nm := match ρ.1 with
  | 0 => ρ
  | _ => match ix ns ρ with
    | some j => (1, 100 + j)
    | none => deadN

/-! ### At the head of a loop: few slots, few roots, and names by their place -/
def pickEnv (env : List (Nat × E)) (f : E → E) : List Nat → List (Nat × E)
  | [] => []
  | k :: ks => match lk env k with
    | some e => (k, f e) :: pickEnv env f ks
    | none => pickEnv env f ks

theorem lk_pickEnv {env : List (Nat × E)} {f : E → E} : ∀ {ks : List Nat} {i : Nat} {e : E}, lk (pickEnv env f ks) i = some e → ∃ e0, lk env i = some e0 ∧ e = f e0
  | [], i, e, h => by simp [pickEnv, lk] at h
  | k :: ks, i, e, h => by
    simp only [pickEnv] at h
    split at h
    · rename_i e0 he
      simp only [lk] at h
      split at h
      · rename_i hi; cases h; subst hi; exact ⟨e0, he, rfl⟩
      · exact lk_pickEnv h
    · exact lk_pickEnv h

def oldR (rt : List (Nm × Root)) (g : Nm → Nm) : Nat → Nat → List (Nm × Root)
  | 0, _ => []
  | n + 1, j => match lk rt (0, j) with
    | some r => ((0, j), gR g r) :: oldR rt g n (j + 1)
    | none => oldR rt g n (j + 1)

def newR (rt : List (Nm × Root)) (g : Nm → Nm) : List Nm → Nat → List (Nm × Root)
  | [], _ => []
  | ρ :: l, j => match lk rt ρ with
    | some r => ((1, 100 + j), gR g r) :: newR rt g l (j + 1)
    | none => newR rt g l (j + 1)

theorem lk_append {κ α : Type} [DecidableEq κ] : ∀ (l m : List (κ × α)) (q : κ), lk (l ++ m) q = match lk l q with | some v => some v | none => lk m q
  | [], m, q => rfl
  | (k, v) :: l, m, q => by
    simp only [List.cons_append, lk]
    split
    · rfl
    · exact lk_append l m q

theorem lk_oldR {rt : List (Nm × Root)} {g : Nm → Nm} : ∀ {n j : Nat} {ρ : Nm} {r : Root}, lk (oldR rt g n j) ρ = some r → ρ.1 = 0 ∧ ∃ r0, lk rt ρ = some r0 ∧ r = gR g r0
  | 0, _, _, _, h => by simp [oldR, lk] at h
  | n + 1, j, ρ, r, h => by
    simp only [oldR] at h
    split at h
    · rename_i r0 h0
      simp only [lk] at h
      split at h
      · rename_i e; cases h; subst e; exact ⟨rfl, r0, h0, rfl⟩
      · exact lk_oldR h
    · exact lk_oldR h

theorem lk_newR {rt : List (Nm × Root)} {g : Nm → Nm} : ∀ {l : List Nm} {j : Nat} {ρ : Nm} {r : Root}, lk (newR rt g l j) ρ = some r → ∃ i σ r0, ρ = (1, 100 + (j + i)) ∧ l[i]? = some σ ∧ lk rt σ = some r0 ∧ r = gR g r0
  | [], _, _, _, h => by simp [newR, lk] at h
  | σ :: l, j, ρ, r, h => by
    simp only [newR] at h
    split at h
    · rename_i r0 h0
      simp only [lk] at h
      split at h
      · rename_i e; cases h; exact ⟨0, σ, r0, by simpa using e, rfl, h0, rfl⟩
      · obtain ⟨i, σ', r0', h1, h2, h3, h4⟩ := lk_newR h
        exact ⟨i + 1, σ', r0', by rw [h1]; congr 1; omega, by simpa using h2, h3, h4⟩
    · obtain ⟨i, σ', r0', h1, h2, h3, h4⟩ := lk_newR h
      exact ⟨i + 1, σ', r0', by rw [h1]; congr 1; omega, by simpa using h2, h3, h4⟩

def isNew (ρ : Nm) : Bool := match ρ.1 with
  | 0 => false
  | _ => true
/-- The names that are in use. -/
def inUse (l : LS) (ks : List Nat) : List Nm :=
  dd ((reach (lk l.rt) 6 ((List.range 16).map (fun j => (0, j)) ++ (pickEnv l.env id ks).flatMap fun p => refE p.2)).filter fun ρ => isNew ρ)

def LS.canon (l : LS) (ks : List Nat) : LS where
  env := pickEnv l.env (gE (rnN (inUse l ks))) ks
  rt := oldR l.rt (rnN (inUse l ks)) 16 0 ++ newR l.rt (rnN (inUse l ks)) (inUse l ks) 0
  ep := 2

def muN (μ : Mu) (ns : List Nm) : Mu := fun ρ => match ρ.1 with
  | 0 => μ ρ
  | 1 => if ρ = deadN then some ⟨none, 0, 0, 0⟩ else (match ns[ρ.2 - 100]? with
    | some σ => if ρ.2 < 100 then none else μ σ
    | none => none)
  | _ => none

def Okx (x : Ctx) (n : Nat) : Prop := x.n = n ∧ ∀ g c f, x.μ0 (g, c) = some f → g = 0

theorem Rel.canon {x : Ctx} {n : Nat} (hx : Okx x n) {l : LS} {used used' : Nat → Bool} {a : Act} {w : World} (h : Rel x (l.den used) a w) (ks : List Nat) : Rel x ((l.canon ks).den used') a w := by
  obtain ⟨μ, I, h⟩ := h
  have hnd : (inUse l ks).Nodup := dd_nodup _
  have hnew : ∀ ρ ∈ inUse l ks, ρ.1 ≠ 0 := fun ρ hρ => by
    have key : ∀ (l : List Nm), ρ ∈ dd l → ρ ∈ l := by
      intro l
      induction l with
      | nil => simp [dd]
      | cons σ l ih =>
        simp only [dd]
        split
        · intro h; exact List.mem_cons_of_mem _ (ih h)
        · intro h
          rcases List.mem_cons.1 h with h | h
          · rw [h]; exact List.mem_cons_self
          · exact List.mem_cons_of_mem _ (ih h)
    have := (List.mem_filter.1 (key _ hρ)).2
    intro h0
    simp [isNew, h0] at this
  generalize hns : inUse l ks = ns at hnd hnew
  have hrt : ∀ ρ r, lk ((l.canon ks).rt) ρ = some r → (ρ.1 = 0 ∧ ∃ r0, lk l.rt ρ = some r0 ∧ r = gR (rnN ns) r0) ∨ (∃ i σ r0, ρ = (1, 100 + i) ∧ ns[i]? = some σ ∧ lk l.rt σ = some r0 ∧ r = gR (rnN ns) r0) := fun ρ r hr => by
    simp only [LS.canon, hns] at hr
    rw [lk_append] at hr
    split at hr
    · rename_i v hv; cases hr; exact .inl (lk_oldR hv)
    · obtain ⟨i, σ, r0, h1, h2⟩ := lk_newR hr
      exact .inr ⟨i, σ, r0, by simpa using h1, h2⟩
  -- what a new name stands for
  have hsrc : ∀ ρ r, lk ((l.canon ks).rt) ρ = some r → ∃ σ r0, lk l.rt σ = some r0 ∧ r = gR (rnN ns) r0 ∧ muN μ ns ρ = μ σ ∧ rnN ns σ = ρ := fun ρ r hr => by
    rcases hrt ρ r hr with ⟨h0, r0, h1, h2⟩ | ⟨i, σ, r0, rfl, h1, h2, h3⟩
    · exact ⟨ρ, r0, h1, h2, by simp [muN, h0], by simp [rnN, h0]⟩
    · refine ⟨σ, r0, h2, h3, ?_, ?_⟩
      · have : ((1, 100 + i) : Nm) ≠ deadN := by simp only [deadN, ne_eq, Prod.mk.injEq, not_and]; omega
        simp only [muN, this, if_false, Nat.add_sub_cancel_left, h1]
        rw [if_neg (by omega)]
      · have h0 := hnew σ (List.mem_of_getElem? h1)
        unfold rnN
        split
        · exact absurd ‹_› h0
        · rw [ix_of hnd h1]
  have hL : ∀ ρ n, ((l.canon ks).den used').L ρ = some n → ∃ σ, (l.den used).L σ = some n ∧ muN μ ns ρ = μ σ ∧ rnN ns σ = ρ := fun ρ n hn => by
    simp only [St.L, LS.den, Option.map_eq_some_iff] at hn
    obtain ⟨r, hr, hn⟩ := hn
    obtain ⟨σ, r0, h1, rfl, h3, h4⟩ := hsrc ρ r hr
    exact ⟨σ, by simp [St.L, LS.den, h1, ← hn, gR_len], h3, h4⟩
  have hinj : ∀ σ τ, rnN ns σ = rnN ns τ → rnN ns σ ≠ deadN → σ = τ := fun σ τ e hd => by
    unfold rnN at e hd
    split at e
    · rename_i h0
      split at e
      · exact e
      · rename_i h1
        split at e
        · rw [e] at h0; simp at h0
        · rw [e] at h0; simp [deadN] at h0
    · rename_i h0
      split at e
      · rename_i j hj
        split at e
        · rename_i h1; rw [← e] at h1; simp at h1
        · split at e
          · rename_i k hk
            simp only [Prod.mk.injEq, true_and, Nat.add_left_cancel_iff] at e
            subst e
            have := ix_get hj
            rw [ix_get hk] at this
            cases this; rfl
          · simp only [deadN, Prod.mk.injEq, true_and] at e; omega
      · rename_i hj
        rw [hj] at hd
        split at hd
        · rename_i h1; exact absurd h1 h0
        · exact absurd rfl hd
  have hrd : ∀ ρ r, lk ((l.canon ks).rt) ρ = some r → ρ ≠ deadN := fun ρ r hr e => by
    rcases hrt ρ r hr with ⟨h0, _⟩ | ⟨i, σ, r0, h1, _⟩
    · rw [e] at h0; simp [deadN] at h0
    · rw [e] at h1; simp only [deadN, Prod.mk.injEq, true_and] at h1; omega
  have hμ : ∀ ρ f, μ ρ = some f → ∃ f', muN μ ns (rnN ns ρ) = some f' ∧ ∀ n, ((l.canon ks).den used').L (rnN ns ρ) = some n → (l.den used).L ρ = some n ∧ f' = f := fun ρ f hf => by
    have h2 : ∀ f', muN μ ns (rnN ns ρ) = some f' → ∀ n, ((l.canon ks).den used').L (rnN ns ρ) = some n → (l.den used).L ρ = some n ∧ f' = f := fun f' hf' n hn => by
      obtain ⟨σ, h1, h3, h4⟩ := hL _ n hn
      simp only [St.L, LS.den, Option.map_eq_some_iff] at hn
      obtain ⟨r, hr, _⟩ := hn
      have := hinj σ ρ h4 (by rw [h4]; exact hrd _ r hr)
      subst this
      rw [h3, hf] at hf'
      cases hf'
      exact ⟨h1, rfl⟩
    cases hm : muN μ ns (rnN ns ρ) with
    | some f' => exact ⟨f', rfl, h2 f' hm⟩
    | none =>
      exfalso
      unfold rnN at hm
      split at hm
      · rename_i h0; simp only [muN, h0, hf] at hm; cases hm
      · split at hm
        · rename_i j hj
          have : ((1, 100 + j) : Nm) ≠ deadN := by simp only [deadN, ne_eq, Prod.mk.injEq, not_and]; omega
          simp [muN, this, ix_get hj, hf] at hm
        · simp [muN, deadN] at hm
  refine ⟨muN μ ns, I, h.defers, h.tsize, fun i e he => ?_, fun ρ r hr => ?_, fun ρ ρ' f f' b h1 h2 h3 h4 h5 h6 => ?_, fun g c f hf => .inl ?_, h.imm0, h.immB, h.immN, h.gr, fun ρ f hf => ?_⟩
  · have he' : lk (pickEnv l.env (gE (rnN ns)) ks) i = some e := by
      have h0 := he
      simp only [LS.den, LS.canon, hns] at h0
      exact h0
    obtain ⟨e0, h0, rfl⟩ := lk_pickEnv he'
    obtain ⟨u, hu, hr⟩ := h.env i e0 h0
    exact ⟨u, hu, gE_spec hμ hr⟩
  · obtain ⟨σ, r0, h1, rfl, h3, _⟩ := hsrc ρ r hr
    obtain ⟨f, hf, hR, hb⟩ := h.root σ r0 h1
    exact ⟨f, h3.trans hf, gR_spec hμ hR, hb⟩
  · obtain ⟨r, hr⟩ := Option.ne_none_iff_exists'.1 h1
    obtain ⟨r', hr'⟩ := Option.ne_none_iff_exists'.1 h2
    obtain ⟨σ, r0, a1, _, a3, a4⟩ := hsrc ρ r hr
    obtain ⟨σ', r0', b1, _, b3, b4⟩ := hsrc ρ' r' hr'
    have := h.apart σ σ' f f' b (by show lk l.rt σ ≠ none; rw [a1]; simp) (by show lk l.rt σ' ≠ none; rw [b1]; simp) (a3 ▸ h3) (b3 ▸ h4) h5 h6
    rw [← a4, ← b4, this]
  · show g < 2
    unfold muN at hf
    split at hf
    · rename_i e; simp only at e; omega
    · rename_i e; simp only at e; omega
    · cases hf
  · have h0 := hx.2 ρ.1 ρ.2 f hf
    obtain ⟨f', hf', h2⟩ := h.kept ρ f hf
    refine ⟨f', by simp [muN, h0, hf'], fun n hn => h2 n ?_⟩
    obtain ⟨σ, h3, h4, h5⟩ := hL ρ n hn
    have : σ = ρ := by
      unfold rnN at h5
      split at h5
      · exact h5
      · split at h5
        · rw [← h5] at h0; simp at h0
        · rw [← h5] at h0; simp [deadN] at h0
    rw [← this]; exact h3

/-- At the head of a region: few slots, new names. -/
def LS.enter (l : LS) (ks : Option (List Nat)) : LS where
  env := match ks with
    | some ks => pickEnv l.env id ks
    | none => l.env
  rt := l.rt
  ep := l.ep + 1

theorem Rel.enter {x : Ctx} {l : LS} {used : Nat → Bool} {a : Act} {w : World} (h : Rel x (l.den used) a w) (ks : Option (List Nat)) : Rel x ((l.enter ks).den fun _ => false) a w := by
  obtain ⟨μ, I, h⟩ := h
  have h1 := h.epoch
  refine ⟨μ, I, ⟨h1.defers, h1.tsize, fun i e he => h1.env i e ?_, h1.root, h1.apart, h1.fresh, h1.imm0, h1.immB, h1.immN, h1.gr, h1.kept⟩⟩
  cases ks with
  | none => exact he
  | some ks =>
    obtain ⟨e0, h0, h2⟩ := lk_pickEnv (show lk (pickEnv l.env id ks) i = some e from he)
    rw [h2]; exact h0

/-- Where a hint says so, the lists that slots lead to are given away. -/
def fzAt (l : LS) (K : LS → Prop) : Option (List Nat) → Prop
  | none => K l
  | some ss => force (l.freeze (rowsN l (ss.flatMap fun i => match lk l.env i with
    | some e => refE e
    | none => []))) K
theorem fzAt_spec {x : Ctx} {l : LS} {used : Nat → Bool} {a : Act} {w : World} {K : LS → Prop} {R : Prop} (h : Rel x (l.den used) a w) (hK : ∀ l', Rel x (l'.den used) a w → K l' → R) {ss : Option (List Nat)} (hf : fzAt l K ss) : R := by
  cases ss with
  | none => exact hK l h hf
  | some ss => exact hK _ (h.freeze _) hf
theorem fzAt_uni {l : LS} {K : LS → Prop} {ss : Option (List Nat)} (hf : fzAt l K ss) : ∃ l', K l' ∧ ∀ (x : Ctx) (used : Nat → Bool) (a : Act) (w : World), Rel x (l.den used) a w → Rel x (l'.den used) a w := by
  cases ss with
  | none => exact ⟨l, hf, fun _ _ _ _ h => h⟩
  | some ss => exact ⟨_, hf, fun _ _ _ _ h => h.freeze _⟩
/-- Where a hint says so, a slot's nil becomes a list of one's own. -/
def LS.nilAt (l : LS) : List (Nat × Nat) → LS
  | [] => l
  | (d, k) :: ds => match lk l.env d with
    | some (.x (.o (.c (.v (.slice none 0 0))))) => LS.nilAt ⟨(d, .x (.o (.h (l.ep, 100 * d) 0 0 0))) :: l.env, setR l.rt [((l.ep, 100 * d), some (.row k []))], l.ep⟩ ds
    | _ => LS.nilAt l ds
def LS.nils (l : LS) (ds : List (Nat × Nat)) : LS := ⟨(l.nilAt ds).env, (l.nilAt ds).rt, (l.nilAt ds).ep + 1⟩

theorem Rel.nil1 {x : Ctx} {l : LS} {used : Nat → Bool} {a : Act} {w : World} (h : Rel x (l.den used) a w) {d : Nat} (k : Nat) (hn : lk l.env d = some (.x (.o (.c (.v (.slice none 0 0)))))) (hu : used d = false) :
    ∃ used', Rel x ((⟨(d, .x (.o (.h (l.ep, 100 * d) 0 0 0))) :: l.env, setR l.rt [((l.ep, 100 * d), some (.row k []))], l.ep⟩ : LS).den used') a w ∧ ∀ e, e ≠ d → used' e = used e := by
  obtain ⟨μ, I, hX⟩ := h
  have h1 := hX.nilRoot (d := d) hu 0 k
  obtain ⟨u, hu1, hE⟩ := hX.env d _ hn
  have hu2 : u = .slice none 0 0 := sc_er hE
  subst hu2
  have hrt : ∀ ρ, lk (setR l.rt [((l.ep, 100 * d), some (.row k []))]) ρ = upd (lk l.rt) (l.ep, 100 * d) (some (.row k [])) ρ := fun ρ => by rw [lk_setR]; rfl
  have hL : (St.L (LS.den ⟨(d, .x (.o (.h (l.ep, 100 * d) 0 0 0))) :: l.env, setR l.rt [((l.ep, 100 * d), some (.row k []))], l.ep⟩ (upd used d true))) = St.L { (l.den used) with rt := upd (l.den used).rt ((l.den used).ep, 100 * d) (some (.row k [])), used := upd (l.den used).used d true } := by
    funext ρ; simp only [St.L, LS.den, hrt]
  refine ⟨upd used d true, ⟨_, I, h1.defers, h1.tsize, fun i e he => ?_, fun ρ r hr => ?_, fun ρ ρ' f f' b g1 g2 => h1.apart ρ ρ' f f' b (fun e => g1 ?_) (fun e => g2 ?_), h1.fresh, h1.imm0, h1.immB, h1.immN, h1.gr, ?_⟩, fun e he => upd_ne _ _ he⟩
  · rw [hL]
    simp only [LS.den, lk] at he
    split at he
    · rename_i hi
      cases he; subst hi
      refine ⟨_, hu1, rfl, ⟨none, 0, k, 0⟩, upd_same _ _ _, fun n hn => ?_⟩
      simp only [St.L, LS.den, upd, if_true, Option.map_some, Root.len, List.length_nil, Option.some.injEq] at hn
      subst hn
      exact ⟨Nat.le_refl _, fun _ => ⟨Nat.le_refl _, .inr (.inl ⟨rfl, rfl, rfl, rfl⟩)⟩⟩
    · exact h1.env i e he
  · rw [hL]
    exact h1.root ρ r (by rw [← hr]; exact (hrt ρ).symm)
  · rw [← e]; exact hrt ρ
  · rw [← e]; exact hrt ρ'
  · rw [hL]; exact h1.kept

theorem Rel.nilAt {x : Ctx} {a : Act} {w : World} : ∀ (ds : List (Nat × Nat)) {l : LS} {used : Nat → Bool}, Rel x (l.den used) a w → (∀ p ∈ ds, used p.1 = false) → (ds.map Prod.fst).Nodup → ∃ used', Rel x ((l.nilAt ds).den used') a w
  | [], l, used, h, _, _ => ⟨used, h⟩
  | (d, k) :: ds, l, used, h, hu, hnd => by
    simp only [List.map_cons, List.nodup_cons] at hnd
    simp only [LS.nilAt]
    split
    · rename_i hn
      obtain ⟨used', h1, h2⟩ := h.nil1 k hn (hu (d, k) (by simp))
      exact Rel.nilAt ds h1 (fun p hp => by rw [h2 p.1 (fun e => hnd.1 (by rw [← e]; exact List.mem_map.2 ⟨p, hp, rfl⟩))]; exact hu p (by simp [hp])) hnd.2
    · exact Rel.nilAt ds h (fun p hp => hu p (by simp [hp])) hnd.2

def nlAt (l : LS) (K : LS → Prop) : Option (List (Nat × Nat)) → Prop
  | none => K l
  | some ds => (ds.map Prod.fst).Nodup ∧ force (l.nils ds) K
theorem nlAt_spec {x : Ctx} {l : LS} {a : Act} {w : World} {K : LS → Prop} {R : Prop} (h : Rel x (l.den fun _ => false) a w) (hK : ∀ l', Rel x (l'.den fun _ => false) a w → K l' → R) {ds : Option (List (Nat × Nat))} (hf : nlAt l K ds) : R := by
  cases ds with
  | none => exact hK l h hf
  | some ds =>
    obtain ⟨used', μ, I, h1⟩ := h.nilAt ds (fun _ _ => rfl) hf.1
    exact hK _ ⟨μ, I, h1.epoch⟩ hf.2
theorem nlAt_uni {l : LS} {K : LS → Prop} {ds : Option (List (Nat × Nat))} (hf : nlAt l K ds) : ∃ l', K l' ∧ ∀ (x : Ctx) (a : Act) (w : World), Rel x (l.den fun _ => false) a w → Rel x (l'.den fun _ => false) a w := by
  cases ds with
  | none => exact ⟨l, hf, fun _ _ _ h => h⟩
  | some ds =>
    refine ⟨_, hf.2, fun x a w h => ?_⟩
    obtain ⟨used', μ, I, h1⟩ := h.nilAt ds (fun _ _ => rfl) hf.1
    exact ⟨μ, I, h1.epoch⟩
/-- A root of which a cell is read otherwise. -/
theorem RelX.recell {x : Ctx} {μ : Mu} {I : Imm} {s : St} {a : Act} {w : World} (h : RelX x μ I s a w) {ρ : Nm} {cs : List D} (hr : s.rt ρ = some (.bx [cs])) {c : Nat} {d0 d : D} (hc : cs[c]? = some d0) (hd : ∀ u, DR w I μ s.L d0 u → DR w I μ s.L d u) :
    RelX x μ I { s with rt := upd s.rt ρ (some (.bx [cs.set c d])) } a w := by
  have hL : St.L { s with rt := upd s.rt ρ (some (.bx [cs.set c d])) } = s.L := by
    funext σ
    simp only [St.L, upd]
    split
    · rename_i e; subst e; rw [hr]; rfl
    · rfl
  have hne : ∀ σ, upd s.rt ρ (some (.bx [cs.set c d])) σ ≠ none → s.rt σ ≠ none := fun σ hσ => by
    simp only [upd] at hσ
    split at hσ
    · rename_i e; subst e; rw [hr]; simp
    · exact hσ
  refine ⟨h.defers, h.tsize, fun i e he => by rw [hL]; exact h.env i e he, fun σ r hσ => ?_, fun σ σ' f f' b h1 h2 => h.apart σ σ' f f' b (hne σ h1) (hne σ' h2), h.fresh, h.imm0, h.immB, h.immN, h.gr, by rw [hL]; exact h.kept⟩
  rw [hL]
  simp only [upd] at hσ
  split at hσ
  · rename_i e
    subst e
    cases hσ
    obtain ⟨f, hf, ⟨h1, us, h2, h3⟩, hB⟩ := h.root σ _ hr
    refine ⟨f, hf, ⟨fun y hy => ?_, us, ?_, h3⟩, hB⟩
    · simp only [List.mem_singleton] at hy
      subst hy
      simpa using h1 cs (by simp)
    · simp only [List.flatten_cons, List.flatten_nil, List.append_nil] at h2 ⊢
      refine F2.of (by simpa using F2.length h2) fun j p q hp hq => ?_
      rw [List.getElem?_set] at hp
      split at hp
      · rename_i e
        subst e
        split at hp
        · cases hp
          obtain ⟨y, hy, hR⟩ := F2.get h2 c d0 hc
          rw [hq] at hy; cases hy
          exact hd q hR
        · cases hp
      · obtain ⟨y, hy, hR⟩ := F2.get h2 j p hp
        rw [hq] at hy; cases hy
        exact hR
  · exact h.root σ r hσ

/-- Where a hint says so, a nil in a box becomes a list of one's own. -/
def LS.nilB1 (l : LS) (p : Nat × Nat × Nat) : LS := match lk l.env p.1 with
  | some (.x (.o (.p ρ 0 0 1))) => match lk l.rt ρ with
    | some (.bx [cs]) => match cs[p.2.1]? with
      | some (.c (.v (.slice none 0 0))) => ⟨l.env, setR l.rt [((l.ep, 100 * p.1), some (.row p.2.2 [])), (ρ, some (.bx [cs.set p.2.1 (.h (l.ep, 100 * p.1) 0 0 0)]))], l.ep + 1⟩
      | _ => l
    | _ => l
  | _ => l
theorem Rel.nilB1 {x : Ctx} {l : LS} {a : Act} {w : World} (h : Rel x (l.den fun _ => false) a w) (p : Nat × Nat × Nat) : Rel x ((l.nilB1 p).den fun _ => false) a w := by
  unfold LS.nilB1
  generalize p.1 = d, p.2.1 = c, p.2.2 = k
  split
  · rename_i ρ hd
    split
    · rename_i cs hr
      split
      · rename_i hc
        obtain ⟨μ, I, hX⟩ := h
        have h1 := hX.nilRoot (d := d) rfl 0 k
        have hfree := hX.free (j := 0) (d := d) (by omega) rfl
        simp only [Nat.add_zero] at hfree
        have hne : ρ ≠ (l.ep, 100 * d) := fun e => by
          obtain ⟨f, hf, _⟩ := hX.root ρ _ hr
          rw [e] at hf
          exact absurd (hf.symm.trans hfree) (by simp)
        have h2 := h1.recell (ρ := ρ) (cs := cs) (c := c) (d0 := .c (.v (.slice none 0 0))) (d := .h (l.ep, 100 * d) 0 0 0) (by show upd (lk l.rt) (l.ep, 100 * d) _ ρ = _; rw [upd_ne _ _ hne]; exact hr) hc (fun u hu => by
          have e1 : u = .slice none 0 0 := by cases hu; rfl
          subst e1
          refine ⟨rfl, ⟨none, 0, k, 0⟩, upd_same _ _ _, fun n hn => ?_⟩
          have e2 : upd (lk l.rt) (l.ep, 100 * d) (some (Root.row k [])) (l.ep, 100 * d) = some (.row k []) := upd_same _ _ _
          simp only [St.L, LS.den, e2, Option.map_some, Root.len, List.length_nil, Option.some.injEq] at hn
          subst hn
          exact ⟨Nat.le_refl _, fun _ => ⟨Nat.le_refl _, .inr (.inl ⟨rfl, rfl, rfl, rfl⟩)⟩⟩)
        refine ⟨upd μ (l.ep, 100 * d) (some { b := none, e := 0, k := k, cap := 0 }), I, ?_⟩
        have h3 := h2.epoch
        have e4 : lk (setR l.rt [((l.ep, 100 * d), some (.row k [])), (ρ, some (.bx [cs.set c (.h (l.ep, 100 * d) 0 0 0)]))]) = upd (upd (lk l.rt) (l.ep, 100 * d) (some (.row k []))) ρ (some (.bx [cs.set c (.h (l.ep, 100 * d) 0 0 0)])) := by
          rw [lk_setR]; rfl
        simp only [LS.den, e4]
        exact h3
      · exact h
    · exact h
  · exact h
def LS.nilB (l : LS) : List (Nat × Nat × Nat) → LS
  | [] => l
  | p :: ps => (l.nilB1 p).nilB ps
theorem Rel.nilB {x : Ctx} {a : Act} {w : World} : ∀ (ps : List (Nat × Nat × Nat)) {l : LS}, Rel x (l.den fun _ => false) a w → Rel x ((l.nilB ps).den fun _ => false) a w
  | [], _, h => h
  | p :: ps, _, h => Rel.nilB ps (h.nilB1 p)
def nbAt (l : LS) (K : LS → Prop) : Option (List (Nat × Nat × Nat)) → Prop
  | none => K l
  | some ps => force (l.nilB ps) K
theorem nbAt_uni {l : LS} {K : LS → Prop} {ss : Option (List (Nat × Nat × Nat))} (hf : nbAt l K ss) : ∃ l', K l' ∧ ∀ (x : Ctx) (a : Act) (w : World), Rel x (l.den fun _ => false) a w → Rel x (l'.den fun _ => false) a w := by
  cases ss with
  | none => exact ⟨l, hf, fun _ _ _ h => h⟩
  | some ss => exact ⟨_, hf, fun _ _ _ h => h.nilB _⟩
/-! ### Loops -/
def Rnds (P : Program) (c : Code) (Q : Exit → Act → World → Prop) (a : Act) (w : World) : Prop := ∀ K : Act → World → Prop, (∀ a w, c.wp P (Exit.then K Q) a w → K a w) → K a w

theorem Rnds.fold {P : Program} {c : Code} {Q : Exit → Act → World → Prop} {a : Act} {w : World} (h : c.wp P (Exit.then (Rnds P c Q) Q) a w) : Rnds P c Q a w := fun K hK =>
  hK _ _ (wp_mono h fun e a w hq => by cases e <;> first | exact hq K hK | exact hq)

theorem Rnds.loop {P : Program} {c : Code} {Q : Exit → Act → World → Prop} {a : Act} {w : World} (h : Rnds P c Q a w) : (Code.loop c).wp P Q a w := by
  intro b k cs
  have key := h (fun a w => ∃ e a' w', Q e a' w' ∧ Arrives P (lone (b.at a (.code c :: .inLoop c :: k)) cs w) b k cs e a' w') fun a w hw => by
    obtain ⟨e, a₁, w₁, hq, harr⟩ := hw b (.inLoop c :: k) cs
    cases e with
    | normal =>
      obtain ⟨e₂, a₂, w₂, hq₂, harr₂⟩ := hq
      exact ⟨e₂, a₂, w₂, hq₂, .of_steps (Steps.trans harr (.one step_inLoop)) harr₂⟩
    | exit id => exact ⟨_, a₁, w₁, hq, .pass (x := .inLoop c) rfl (fun _ _ => .inl (by simp)) harr⟩
    | goto l => exact ⟨_, a₁, w₁, hq, .pass (x := .inLoop c) rfl (fun _ _ => .inl (by simp)) harr⟩
    | ret => exact ⟨_, a₁, w₁, hq, .pass (x := .inLoop c) rfl (fun _ _ => .inl (by simp)) harr⟩
    | panic ch => exact ⟨_, a₁, w₁, hq, .pass (x := .inLoop c) rfl (fun _ _ => .inl (by simp)) harr⟩
    | outgrown => exact ⟨_, a₁, w₁, hq, .pass (x := .inLoop c) rfl (fun _ _ => .inl (by simp)) harr⟩
  obtain ⟨e, a', w', hq, harr⟩ := key
  exact ⟨e, a', w', hq, .of_steps (.one step_loop) harr⟩

/-- One state, at one exit. -/
def at1 (x : Ctx) (e : Exit) (l : LS) : Exit → Act → World → Prop := fun e1 a w => e1 = e ∧ ∃ used, Rel x (l.den used) a w

/-- The loop leads to one state, whatever the world. -/
def LoopS (P : Program) (n : Nat) (c : Code) (l : LS) (e : Exit) (l' : LS) : Prop := ∀ x, Okx x n → ∀ used a w, Rel x (l.den used) a w → Rnds P c (at1 x e l') a w
def Sem1 (P : Program) (n : Nat) (c : Code) (l : LS) (e : Exit) (l' : LS) : Prop := ∀ x, Okx x n → ∀ used a w, Rel x (l.den used) a w → c.wp P (at1 x e l') a w
def LoopV (P : Program) (n : Nat) (c : Code) (l : LS) (Q : Exit → LS → Prop) : Prop := ∃ e l', Q e l' ∧ LoopS P n c l e l'

/-! ### Code -/
def firstId : Code → Nat
  | .region id _ _ => id
  | .seq a _ => firstId a
  | .cond _ a _ => firstId a
  | .block _ a => firstId a
  | .loop a => firstId a
  | _ => 0
def headK (H : Hint) (c : Code) : List Nat := match lk H.kp (firstId c) with
  | some ks => ks
  | none => []

def thenV (K : LS → Prop) (Q : Exit → LS → Prop) : Exit → LS → Prop
  | .normal, l => K l
  | e, l => Q e l
def blockV (id : Nat) (Q : Exit → LS → Prop) : Exit → LS → Prop
  | .exit id', l => if id' = id then Q .normal l else Q (.exit id') l
  | e, l => Q e l

def inL (k : Nat) : List Nat → Bool
  | [] => false
  | j :: l => if k = j then true else inL k l
/-- One part behind the other, with what is known between them said by hand. -/
def CutS (P : Program) (n : Nat) (a b : Code) (l : LS) (Q : Exit → LS → Prop) : Prop := ∃ e l', Q e l' ∧ Sem1 P n (.seq a b) l e l'

def vcode (P : Program) (H : Hint) (n : Nat) : Code → LS → (Exit → LS → Prop) → Prop
  | .skip, l, Q => Q .normal l
  | .ret, l, Q => Q .ret l
  | .exit id, l, Q => Q (.exit id) l
  | .seq a b, l, Q => match inL (firstId b) H.cut with
    | true => CutS P n a b l Q
    | false => vcode P H n a l (thenV (fun l' => vcode P H n b l' Q) Q)
  | .block id a, l, Q => vcode P H n a l (blockV id Q)
  | .cond c a b, l, Q => match evE (lk l.env) c with
    | some (.x (.o (.c (.v (.bool t))))) => if t = true then vcode P H n a l Q else vcode P H n b l Q
    | _ => False
  | .loop a, l, Q => LoopV P n a (l.canon (headK H a)) Q
  | .region id ops false, l, Q => force (l.enter (lk H.kp id)) fun l1 => fzAt l1 (fun l2 => nlAt l2 (fun l3 => nbAt l3 (fun l' => vops P H ops ops.toList l' fun l'' => Q .normal l'') (lk H.nb id)) (lk H.nl id)) (lk H.fz id)
  | .region id ops true, l, Q => force (l.enter (lk H.kp id)) fun l1 => fzAt l1 (fun l2 => nlAt l2 (fun l3 => nbAt l3 (fun l' => vopsD P H (anOf H.an id) ops ops.toList l' [] fun l'' => Q .normal l'') (lk H.nb id)) (lk H.nl id)) (lk H.fz id)
  | _, _, _ => False

theorem vcode_sound {P : Program} {H : Hint} (hH : H.ok P) {n : Nat} : ∀ (c : Code) (l : LS) (Q : Exit → LS → Prop), wfCode H.an n c = true → vcode P H n c l Q → ∃ e l', Q e l' ∧ Sem1 P n c l e l' := by
  intro c
  induction c with
  | skip => intro l Q _ h; exact ⟨_, _, h, fun x hx used a w hR => wp_skip ⟨rfl, used, hR⟩⟩
  | ret => intro l Q _ h; exact ⟨_, _, h, fun x hx used a w hR => wp_ret ⟨rfl, used, hR⟩⟩
  | exit id => intro l Q _ h; exact ⟨_, _, h, fun x hx used a w hR => wp_exit ⟨rfl, used, hR⟩⟩
  | seq c1 c2 ih1 ih2 =>
    intro l Q hwf h
    simp only [wfCode, Bool.and_eq_true] at hwf
    simp only [vcode] at h
    split at h
    · exact h
    obtain ⟨e1, l1, h1, hS1⟩ := ih1 l _ hwf.1 h
    by_cases he : e1 = .normal
    · subst he
      obtain ⟨e2, l2, h2, hS2⟩ := ih2 l1 Q hwf.2 h1
      refine ⟨e2, l2, h2, fun x hx used a w hR => wp_seq (wp_mono (hS1 x hx used a w hR) ?_)⟩
      rintro e a' w' ⟨rfl, used', hR'⟩
      exact hS2 x hx used' a' w' hR'
    · refine ⟨e1, l1, by cases e1 <;> first | exact absurd rfl he | exact h1, fun x hx used a w hR => wp_seq (wp_mono (hS1 x hx used a w hR) ?_)⟩
      rintro e a' w' ⟨rfl, used', hR'⟩
      cases e <;> first | exact absurd rfl he | exact ⟨rfl, used', hR'⟩
  | block id c ih =>
    intro l Q hwf h
    obtain ⟨e1, l1, h1, hS1⟩ := ih l _ hwf h
    by_cases he : e1 = .exit id
    · subst he
      simp only [blockV, if_true] at h1
      refine ⟨.normal, l1, h1, fun x hx used a w hR => wp_block (wp_mono (hS1 x hx used a w hR) ?_)⟩
      rintro e a' w' ⟨rfl, used', hR'⟩
      simp only [Exit.inBlock, if_true]
      exact ⟨rfl, used', hR'⟩
    · refine ⟨e1, l1, ?_, fun x hx used a w hR => wp_block (wp_mono (hS1 x hx used a w hR) ?_)⟩
      · cases e1 <;> first | exact h1 | (rename_i id'; simp only [blockV] at h1; rw [if_neg (fun e => he (by rw [e]))] at h1; exact h1)
      · rintro e a' w' ⟨rfl, used', hR'⟩
        cases e <;> first | exact ⟨rfl, used', hR'⟩ | (rename_i id'; simp only [Exit.inBlock]; rw [if_neg (fun e => he (by rw [e]))]; exact ⟨rfl, used', hR'⟩)
  | cond c c1 c2 ih1 ih2 =>
    intro l Q hwf h
    simp only [wfCode, Bool.and_eq_true] at hwf
    simp only [vcode] at h
    split at h
    · rename_i t ht
      cases t with
      | true =>
        rw [if_pos rfl] at h
        obtain ⟨e1, l1, h1, hS1⟩ := ih1 l Q hwf.1 h
        refine ⟨e1, l1, h1, fun x hx used a w hR => ?_⟩
        have hR' := hR
        obtain ⟨μ, I, hX⟩ := hR
        have hc : a.eval c = .bool true := sc_er (evE_spec hX ht)
        refine wp_cond hc ?_
        rw [if_pos rfl]
        exact hS1 x hx used a w hR'
      | false =>
        rw [if_neg (by simp)] at h
        obtain ⟨e1, l1, h1, hS1⟩ := ih2 l Q hwf.2 h
        refine ⟨e1, l1, h1, fun x hx used a w hR => ?_⟩
        have hR' := hR
        obtain ⟨μ, I, hX⟩ := hR
        have hc : a.eval c = .bool false := sc_er (evE_spec hX ht)
        refine wp_cond hc ?_
        rw [if_neg (by simp)]
        exact hS1 x hx used a w hR'
    · exact h.elim
  | loop c ih =>
    intro l Q hwf h
    obtain ⟨e, l', hq, hS⟩ : LoopV P n c (l.canon (headK H c)) Q := h
    exact ⟨e, l', hq, fun x hx used a w hR => (hS x hx (fun _ => false) a w (hR.canon hx _)).loop⟩
  | region id ops draw =>
    intro l Q hwf h
    simp only [wfCode, Bool.and_eq_true] at hwf
    cases draw with
    | true =>
      have h2 : fzAt (l.enter (lk H.kp id)) (fun l2 => nlAt l2 (fun l3 => nbAt l3 (fun l' => vopsD P H (anOf H.an id) ops ops.toList l' [] fun l'' => Q .normal l'') (lk H.nb id)) (lk H.nl id)) (lk H.fz id) := h
      obtain ⟨l1, h3, r1⟩ := fzAt_uni h2
      obtain ⟨l2, h3b, r2⟩ := nlAt_uni h3
      obtain ⟨l2b, h4, r2b⟩ := nbAt_uni h3b
      obtain ⟨l3, h5, r3⟩ := vopsD_uni hH hwf.2 h4
      exact ⟨.normal, l3, h5, fun x hx used a w hR => r3 x _ id a w (fun used a w hR => ⟨rfl, used, hR⟩) (by rw [hx.1]; exact hwf.1) (r2b x a w (r2 x a w (r1 x _ a w (hR.enter (lk H.kp id)))))⟩
    | false =>
      have h2 : fzAt (l.enter (lk H.kp id)) (fun l2 => nlAt l2 (fun l3 => nbAt l3 (fun l' => vops P H ops ops.toList l' fun l'' => Q .normal l'') (lk H.nb id)) (lk H.nl id)) (lk H.fz id) := h
      obtain ⟨l1, h3, r1⟩ := fzAt_uni h2
      obtain ⟨l2, h3b, r2⟩ := nlAt_uni h3
      obtain ⟨l2b, h4, r2b⟩ := nbAt_uni h3b
      obtain ⟨l3, h5, r3⟩ := vops_uni (ops := ops) hH _ _ h4
      exact ⟨.normal, l3, h5, fun x hx used a w hR => wp_region_list (r3 x (at1 x .normal l3) [] _ a w (fun used a w hR => ⟨rfl, used, hR⟩) (by rw [hx.1]; exact hwf.1) (by simp) (r2b x a w (r2 x a w (r1 x _ a w (hR.enter (lk H.kp id))))))⟩
  | _ => intro l Q _ h; exact h.elim

theorem CutS.intro {P : Program} {H : Hint} (hH : H.ok P) {n : Nat} {a b : Code} {l : LS} {Q : Exit → LS → Prop} (hwa : wfCode H.an n a = true) (hwb : wfCode H.an n b = true) {α : Type} (st : α → LS) (J : α → Prop)
    (h1 : vcode P H n a l (thenV (fun l' => ∃ y, J y ∧ l'.canon (headK H b) = st y) Q)) (h2 : ∀ y, J y → vcode P H n b (st y) Q) : CutS P n a b l Q := by
  obtain ⟨e1, l1, g1, hS1⟩ := vcode_sound hH a l _ hwa h1
  by_cases he : e1 = .normal
  · subst he
    obtain ⟨y, hy, hc⟩ := g1
    obtain ⟨e2, l2, g2, hS2⟩ := vcode_sound hH b _ _ hwb (h2 y hy)
    refine ⟨e2, l2, g2, fun x hx used a' w hR => wp_seq (wp_mono (hS1 x hx used a' w hR) ?_)⟩
    rintro e a' w' ⟨rfl, used', hR'⟩
    refine hS2 x hx (fun _ => false) a' w' ?_
    rw [← hc]
    exact hR'.canon hx _
  · refine ⟨e1, l1, by cases e1 <;> first | exact absurd rfl he | exact g1, fun x hx used a' w hR => wp_seq (wp_mono (hS1 x hx used a' w hR) ?_)⟩
    rintro e a' w' ⟨rfl, used', hR'⟩
    cases e <;> first | exact absurd rfl he | exact ⟨rfl, used', hR'⟩

/-- One round of a loop. -/
theorem LoopV.step {P : Program} {H : Hint} (hH : H.ok P) {n : Nat} {c : Code} {l : LS} {Q : Exit → LS → Prop} (hwf : wfCode H.an n c = true) (h : vcode P H n c l (thenV (fun l' => LoopV P n c (l'.canon (headK H c)) Q) Q)) : LoopV P n c l Q := by
  obtain ⟨e1, l1, h1, hS⟩ := vcode_sound hH c l _ hwf h
  by_cases he : e1 = .normal
  · subst he
    obtain ⟨e2, l2, h2, hL⟩ := h1
    refine ⟨e2, l2, h2, fun x hx used a w hR => .fold (wp_mono (hS x hx used a w hR) ?_)⟩
    rintro e a' w' ⟨rfl, used', hR'⟩
    exact hL x hx (fun _ => false) a' w' (hR'.canon hx _)
  · refine ⟨e1, l1, by cases e1 <;> first | exact absurd rfl he | exact h1, fun x hx used a w hR => .fold (wp_mono (hS x hx used a w hR) ?_)⟩
    rintro e a' w' ⟨rfl, used', hR'⟩
    cases e <;> first | exact absurd rfl he | exact ⟨rfl, used', hR'⟩

theorem LoopV.mono {P : Program} {n : Nat} {c : Code} {l : LS} {Q Q' : Exit → LS → Prop} (hQ : ∀ e l, Q e l → Q' e l) (h : LoopV P n c l Q) : LoopV P n c l Q' := by
  obtain ⟨e, l', h1, h2⟩ := h
  exact ⟨e, l', hQ _ _ h1, h2⟩

/-- A loop that gets on: a shape of states at its head, a measure that falls. -/
theorem LoopV.meas {P : Program} {H : Hint} (hH : H.ok P) {n : Nat} {c : Code} {Q : Exit → LS → Prop} (hwf : wfCode H.an n c = true) {α : Type} (st : α → LS) (m : α → Nat) (J : α → Prop)
    (hstep : ∀ y, J y → vcode P H n c (st y) (thenV (fun l' => ∃ z, J z ∧ m z < m y ∧ l'.canon (headK H c) = st z) Q)) : ∀ y, J y → LoopV P n c (st y) Q := by
  intro y
  generalize hk : m y = k
  induction k using Nat.strongRecOn generalizing y with
  | _ k ih =>
    intro hJ
    obtain ⟨e1, l1, h1, hS⟩ := vcode_sound hH c _ _ hwf (hstep y hJ)
    by_cases he : e1 = .normal
    · subst he
      obtain ⟨z, g1, g2, g3⟩ := h1
      obtain ⟨e2, l2, h2, hL⟩ := ih (m z) (by omega) z rfl g1
      refine ⟨e2, l2, h2, fun x hx used a w hR => .fold (wp_mono (hS x hx used a w hR) ?_)⟩
      rintro e a' w' ⟨rfl, used', hR'⟩
      refine hL x hx (fun _ => false) a' w' ?_
      rw [← g3]
      exact hR'.canon hx _
    · refine ⟨e1, l1, by cases e1 <;> first | exact absurd rfl he | exact h1, fun x hx used a w hR => .fold (wp_mono (hS x hx used a w hR) ?_)⟩
      rintro e a' w' ⟨rfl, used', hR'⟩
      cases e <;> first | exact absurd rfl he | exact ⟨rfl, used', hR'⟩

theorem LoopV.go {P : Program} {H : Hint} (hH : H.ok P) {n : Nat} {c : Code} {l : LS} {Q : Exit → LS → Prop} (hwf : wfCode H.an n c = true) {α : Type} (st : α → LS) (m : α → Nat) (J : α → Prop)
    (hstep : ∀ y, J y → vcode P H n c (st y) (thenV (fun l' => ∃ z, J z ∧ m z < m y ∧ l'.canon (headK H c) = st z) Q)) (y : α) (hy : J y) (hl : l = st y := by rfl) : LoopV P n c l Q := by
  rw [hl]
  exact LoopV.meas hH hwf st m J hstep y hy

end Go.Proofs.YtcgkhljolflenaaGreatW.V
