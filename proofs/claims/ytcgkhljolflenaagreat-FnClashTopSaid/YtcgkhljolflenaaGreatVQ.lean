/- What a function does to plain values, and what a call of it does. No condition but each theorem's own. -/
import Derived.Test.YtcgkhljolflenaaGreatVO
namespace Go.Proofs.YtcgkhljolflenaaGreatW.V
open Go

def lensL (l : List (Option Root)) : Lens := fun ρ => if ρ.1 = 0 then (match l[ρ.2]? with
  | some (some r) => some r.len
  | _ => none) else none

def ownOf (μ : Mu) (b : Nat) : Prop := ∃ ρ f, μ ρ = some f ∧ f.b = some b

structure Roots (w : World) (I : Imm) (μ : Mu) (l : List (Option Root)) (own : Nat → Prop) : Prop where
  root : ∀ j r, l[j]? = some (some r) → ∃ f, μ (0, j) = some f ∧ RR w I μ (lensL l) r f ∧ ∀ b, f.b = some b → b < w.heap.size ∧ (∀ o, ¬ I b o) ∧ own b
  apart : ∀ j j' r r' f f' b, l[j]? = some (some r) → l[j']? = some (some r') → μ (0, j) = some f → μ (0, j') = some f' → f.b = some b → f'.b = some b → j = j'
  dom : ∀ g c f, μ (g, c) = some f → g = 0 ∧ c < l.length

/-- The function, called with these plain values and roots, answers this value and leaves these roots. -/
def VSem (P : Program) (f : FuncId) (args : List E) (rin : List (Option Root)) (res : E) (rout : List (Option Root)) : Prop :=
  ∀ (w : World) (I : Imm) (μ : Mu) (us : List Value), F2 (ER w I μ (lensL rin)) args us → Roots w I μ rin (fun _ => True) → (∀ b o, I b o → b < w.heap.size) →
    Calls P f us.toArray w fun e w' => ∃ v I' μ', e = .returned v ∧ ER w' I' μ' (lensL rout) res v ∧ Roots w' I' μ' rout (fun b => ownOf μ b ∨ w.heap.size ≤ b) ∧ Stays w I w' I' ∧ Gr w w' (ownOf μ) ∧
      (∀ b o, I' b o → b < w'.heap.size ∧ (I b o ∨ ownOf μ b ∨ w.heap.size ≤ b)) ∧
      (∀ j r r' f, rin[j]? = some (some r) → rout[j]? = some (some r') → μ (0, j) = some f → r.len ≤ r'.len ∧ (r.len = r'.len → μ' (0, j) = some f))

/-! ### Names -/
def ix : List Nm → Nm → Option Nat
  | [], _ => none
  | σ :: l, ρ => if ρ = σ then some 0 else match ix l ρ with
    | some j => some (j + 1)
    | none => none

theorem ix_get : ∀ {l : List Nm} {ρ : Nm} {j : Nat}, ix l ρ = some j → l[j]? = some ρ
  | [], _, _, h => by simp [ix] at h
  | σ :: l, ρ, j, h => by
    simp only [ix] at h
    split at h
    · rename_i e; cases h; simp [e]
    · split at h
      · rename_i k hk; cases h; simpa using ix_get hk
      · cases h

theorem ix_none : ∀ {l : List Nm} {ρ : Nm}, ix l ρ = none → ρ ∉ l
  | [], _, _ => by simp
  | σ :: l, ρ, h => by
    simp only [ix] at h
    split at h
    · cases h
    · rename_i hne
      split at h
      · cases h
      · rename_i hk
        simp only [List.mem_cons, not_or]
        exact ⟨hne, ix_none hk⟩

theorem ix_of : ∀ {l : List Nm} {ρ : Nm} {j : Nat}, l.Nodup → l[j]? = some ρ → ix l ρ = some j
  | [], _, _, _, h => by simp at h
  | σ :: l, ρ, 0, _, h => by simp at h; simp [ix, h]
  | σ :: l, ρ, j + 1, hn, h => by
    have h' : l[j]? = some ρ := by simpa using h
    have hm : ρ ∈ l := List.mem_of_getElem? h'
    have hne : ρ ≠ σ := fun e => (List.nodup_cons.1 hn).1 (e ▸ hm)
    simp only [ix, if_neg hne, ix_of (List.nodup_cons.1 hn).2 h']

/-! ### Passing -/
def passD (ps : List Nm) (rt : Nm → Option Root) (lend : Bool) : D → Option D
  | .c y => some (.c y)
  | .h ρ i n m => match ix ps ρ with
    | some j => some (.h (0, j) i n m)
    | none => match lend with
      | true => match viewE rt (.x (.o (.h ρ i n m))) with
        | some xs => some (.c (.s xs))
        | none => none
      | false => none
  | .p ρ i o m => match ix ps ρ with
    | some j => some (.p (0, j) i o m)
    | none => none
  | .e xs i o => some (.e xs i o)

def mapO {α β : Type} (f : α → Option β) : List α → Option (List β)
  | [] => some []
  | y :: l => match f y, mapO f l with
    | some z, some r => some (z :: r)
    | _, _ => none

theorem mapO_spec {α β : Type} {f : α → Option β} : ∀ {l : List α} {r : List β}, mapO f l = some r → F2 (fun y z => f y = some z) l r
  | [], r, h => by simp only [mapO, Option.some.injEq] at h; subst h; exact .nil
  | y :: l, r, h => by
    simp only [mapO] at h
    split at h
    · rename_i z r' h1 h2; cases h; exact .cons h1 (mapO_spec h2)
    · cases h

def passA (ps : List Nm) (rt : Nm → Option Root) (lend : Bool) : A → Option A
  | .o d => match passD ps rt lend d with
    | some d => some (.o d)
    | none => none
  | .a cs => match mapO (passD ps rt lend) cs with
    | some cs => some (.a cs)
    | none => none
def passE (ps : List Nm) (rt : Nm → Option Root) (lend : Bool) : E → Option E
  | .x y => match passA ps rt lend y with
    | some y => some (.x y)
    | none => none
  | .t _ => none
def passR (ps : List Nm) (rt : Nm → Option Root) (lend : Bool) : Root → Option Root
  | .row k xs => some (.row k xs)
  | .bx xs => match mapO (mapO (passD ps rt lend)) xs with
    | some xs => some (.bx xs)
    | none => none
  | .it s p => some (.it s p)
  | .mp es => some (.mp es)

def muC (ps : List Nm) (μ : Mu) : Mu := fun ρ => if ρ.1 = 0 then (match ps[ρ.2]? with
  | some σ => μ σ
  | none => none) else none

section
variable {P : Program} {x : Ctx} {μ : Mu} {I : Imm} {s : St} {a : Act} {w : World}

/-- What is read while a call runs. -/
def lendI (μ : Mu) (I : Imm) (s : St) (ps : List Nm) (lend : Bool) : Imm := fun k j => I k j ∨ (lend = true ∧ ∃ ρ, ρ ∉ ps ∧ s.rt ρ ≠ none ∧ blk μ ρ k)

theorem passD_spec (h : RelX x μ I s a w) {ps : List Nm} {lend : Bool} {Lc : Lens} (hL : ∀ j ρ, ps[j]? = some ρ → Lc (0, j) = s.L ρ) {d d' : D} {u : Value} (hd : DR w I μ s.L d u) (hp : passD ps s.rt lend d = some d') :
    DR w (lendI μ I s ps lend) (muC ps μ) Lc d' u := by
  cases d with
  | c y => simp only [passD, Option.some.injEq] at hp; subst hp; exact CR.mono (fun b o hb => ⟨.inl hb, rfl⟩) hd
  | h ρ i n m =>
    simp only [passD] at hp
    split at hp
    · rename_i j hj
      cases hp
      have hg := ix_get hj
      obtain ⟨h0, f, hf, h1⟩ := hd
      exact ⟨h0, f, by simp [muC, hg, hf], fun l hl => h1 l (by rw [← hL j ρ hg]; exact hl)⟩
    · rename_i hj
      split at hp
      · split at hp
        · rename_i xs hv
          cases hp
          obtain ⟨q, c, rfl, hc, h1⟩ := view_spec (e := .x (.o (.h ρ i n m))) (u := u) h hd hv
          rcases h1 with rfl | ⟨b, o, k, us, rfl, hVB, hown⟩
          · exact .nil _ _
          · refine (hVB.sb (I' := lendI μ I s ps true) (fun j' u hu => ?_) (fun _ _ h => .inl h)).cr hc
            rcases hown with h2 | ⟨ρ', i', n', m', f, e2, hf, hb⟩
            · exact .inl (h2 j' u hu)
            · cases e2
              refine .inr ⟨rfl, ρ, ix_none hj, fun hn => ?_, f, hf, hb⟩
              unfold viewE at hv
              simp only [hn] at hv
              cases hv
        · cases hp
      · cases hp
  | p ρ i o m =>
    simp only [passD] at hp
    split at hp
    · rename_i j hj
      cases hp
      have hg := ix_get hj
      obtain ⟨h0, f, hf, h1⟩ := hd
      exact ⟨h0, f, by simp [muC, hg, hf], fun l hl => h1 l (by rw [← hL j ρ hg]; exact hl)⟩
    · cases hp
  | e xs i o =>
    simp only [passD, Option.some.injEq] at hp; subst hp
    obtain ⟨b, oo, k, us, hb, e⟩ := hd
    exact ⟨b, oo, k, us, hb.mono (fun b o hb => ⟨.inl hb, rfl⟩), e⟩

theorem F2.pass {α β : Type} {f : α → Option β} {R : α → Value → Prop} {S : β → Value → Prop} (hRS : ∀ y z u, R y u → f y = some z → S z u) : ∀ {l : List α} {r : List β} {us : List Value}, mapO f l = some r → F2 R l us → F2 S r us
  | [], r, us, h, h2 => by simp only [mapO, Option.some.injEq] at h; subst h; cases h2; exact .nil
  | y :: l, r, us, h, h2 => by
    simp only [mapO] at h
    split at h
    · rename_i z r' h1 h3
      cases h
      cases h2 with
      | cons h4 h5 => exact .cons (hRS _ _ _ h4 h1) (F2.pass hRS h3 h5)
    · cases h

theorem mapO_len {α β : Type} {f : α → Option β} {l : List α} {r : List β} (h : mapO f l = some r) : r.length = l.length := (F2.length (mapO_spec h)).symm

theorem mapO_flatten {α β : Type} {f : α → Option β} : ∀ {l : List (List α)} {r : List (List β)}, mapO (mapO f) l = some r → mapO f l.flatten = some r.flatten
  | [], r, h => by simp only [mapO, Option.some.injEq] at h; subst h; rfl
  | y :: l, r, h => by
    simp only [mapO] at h
    split at h
    · rename_i z r' h1 h2
      cases h
      have ih := mapO_flatten h2
      simp only [List.flatten_cons]
      clear h2
      induction y generalizing z with
      | nil => simp only [mapO, Option.some.injEq] at h1; subst h1; simpa using ih
      | cons c y ihy =>
        simp only [mapO] at h1
        split at h1
        · rename_i d z' h3 h4
          cases h1
          simp only [List.cons_append, mapO, h3, ihy z' h4]
        · cases h1
    · cases h

theorem passA_spec (h : RelX x μ I s a w) {ps : List Nm} {lend : Bool} {Lc : Lens} (hL : ∀ j ρ, ps[j]? = some ρ → Lc (0, j) = s.L ρ) {y y' : A} {u : Value} (hy : AR w I μ s.L y u) (hp : passA ps s.rt lend y = some y') :
    AR w (lendI μ I s ps lend) (muC ps μ) Lc y' u := by
  cases y with
  | o d =>
    simp only [passA] at hp
    split at hp
    · rename_i d' hd'; cases hp; exact passD_spec h hL hy hd'
    · cases hp
  | a cs =>
    simp only [passA] at hp
    split at hp
    · rename_i cs' hcs
      cases hp
      obtain ⟨us, e, h2⟩ := hy
      exact ⟨us, e, F2.pass (R := DR w I μ s.L) (S := DR w (lendI μ I s ps lend) (muC ps μ) Lc) (fun _ _ _ h1 h2 => passD_spec h hL h1 h2) hcs h2⟩
    · cases hp

theorem passE_spec (h : RelX x μ I s a w) {ps : List Nm} {lend : Bool} {Lc : Lens} (hL : ∀ j ρ, ps[j]? = some ρ → Lc (0, j) = s.L ρ) {y y' : E} {u : Value} (hy : ER w I μ s.L y u) (hp : passE ps s.rt lend y = some y') :
    ER w (lendI μ I s ps lend) (muC ps μ) Lc y' u := by
  cases y with
  | x z =>
    simp only [passE] at hp
    split at hp
    · rename_i z' hz; cases hp; exact passA_spec h hL hy hz
    · cases hp
  | t vs => simp [passE] at hp

theorem passR_spec (h : RelX x μ I s a w) {ps : List Nm} {lend : Bool} {Lc : Lens} (hL : ∀ j ρ, ps[j]? = some ρ → Lc (0, j) = s.L ρ) {r r' : Root} {f : Info} (hr : RR w I μ s.L r f) (hp : passR ps s.rt lend r = some r') :
    RR w (lendI μ I s ps lend) (muC ps μ) Lc r' f ∧ r'.len = r.len := by
  cases r with
  | row k xs =>
    simp only [passR, Option.some.injEq] at hp; subst hp
    obtain ⟨h1, ⟨us, h2, h3⟩, h4⟩ := hr
    exact ⟨⟨h1, ⟨us, F2.mono (fun _ _ => CR.mono fun b o hb => ⟨.inl hb, rfl⟩) h2, h3⟩, h4⟩, rfl⟩
  | bx xs =>
    simp only [passR] at hp
    split at hp
    · rename_i xs' hxs
      cases hp
      obtain ⟨h1, us, h2, h3⟩ := hr
      have hlen := mapO_len hxs
      refine ⟨⟨fun y hy => ?_, us, F2.pass (R := DR w I μ s.L) (S := DR w (lendI μ I s ps lend) (muC ps μ) Lc) (fun _ _ _ h1 h2 => passD_spec h hL h1 h2) (mapO_flatten hxs) h2, by rw [hlen]; exact h3⟩, hlen⟩
      obtain ⟨j, hj⟩ := List.getElem?_of_mem hy
      have hlt : j < xs.length := by rw [← hlen]; exact (List.getElem?_eq_some_iff.1 hj).1
      obtain ⟨z, hz, hzf⟩ := F2.get (mapO_spec hxs) j _ (List.getElem?_eq_getElem hlt)
      rw [hj] at hz; cases hz
      rw [mapO_len hzf]
      exact h1 _ (List.getElem_mem hlt)
    · cases hp
  | it s p => simp only [passR, Option.some.injEq] at hp; subst hp; exact ⟨hr, rfl⟩
  | mp es => simp only [passR, Option.some.injEq] at hp; subst hp; exact ⟨hr, rfl⟩
end

/-! ### Back again -/
/-- A function's names as the caller's. -/
def backN (names : List Nm) (ρ : Nm) : Nm := match names[ρ.2]? with
  | some σ => σ
  | none => (0, 0)
def backD (names : List Nm) : D → D
  | .c y => .c y
  | .h ρ i n m => .h (backN names ρ) i n m
  | .p ρ i o m => .p (backN names ρ) i o m
  | .e xs i o => .e xs i o
def backA (names : List Nm) : A → A
  | .o d => .o (backD names d)
  | .a cs => .a (cs.map (backD names))
def backE (names : List Nm) : E → E
  | .x y => .x (backA names y)
  | .t vs => .t (vs.map (backA names))
def backR (names : List Nm) : Root → Root
  | .row k xs => .row k xs
  | .bx xs => .bx (xs.map (List.map (backD names)))
  | .it s p => .it s p
  | .mp es => .mp es

/-- Nothing that others may read. -/
def noShC : C → Prop
  | .v _ => True
  | .s xs => xs = []
def noShD : D → Prop
  | .c y => noShC y
  | .h .. => True
  | .p .. => True
  | .e .. => False
def noShA : A → Prop
  | .o d => noShD d
  | .a cs => ∀ d ∈ cs, noShD d
def noShE : E → Prop
  | .x y => noShA y
  | .t vs => ∀ y ∈ vs, noShA y
def noShR : Root → Prop
  | .row _ xs => ∀ c ∈ xs, ∀ y ∈ c, noShC y
  | .bx xs => ∀ c ∈ xs, ∀ y ∈ c, noShD y
  | .it _ _ => True
  | .mp _ => True

theorem CR.nosh {w : World} {I I' : Imm} {y : C} {u : Value} (h : CR w I y u) (hn : noShC y) : CR w I' y u := by
  cases y with
  | v v => cases h with | v h => exact .v _ ‹_›
  | s xs =>
    have : xs = [] := hn
    subst this
    obtain ⟨q, c, e, _⟩ := CR.slice h
    rw [e]; exact .nil _ _

section
variable {w : World} {I I' : Imm} {μ μ' : Mu} {L L' : Lens}

/-- From a function's names to the caller's: the same values. -/
theorem backD_spec {names : List Nm} (hμ : ∀ j σ f, names[j]? = some σ → μ (0, j) = some f → μ' σ = some f) (hL : ∀ j σ, names[j]? = some σ → L' σ = L (0, j)) (hdom : ∀ g c f, μ (g, c) = some f → g = 0 ∧ c < names.length)
    (keep : Bool) (hI : keep = false → I' = I) {d : D} {u : Value} (h : DR w I μ L d u) (hn : keep = true → noShD d) : DR w I' μ' L' (backD names d) u := by
  have nm : ∀ ρ f, μ ρ = some f → ∃ j, ρ = (0, j) ∧ names[j]? = some (backN names ρ) := fun ρ f hf => by
    obtain ⟨e1, e2⟩ := hdom ρ.1 ρ.2 f hf
    refine ⟨ρ.2, by rw [← e1], ?_⟩
    unfold backN
    rw [List.getElem?_eq_getElem e2]
  cases d with
  | c y =>
    cases keep with
    | false => rw [hI rfl]; exact h
    | true => exact CR.nosh h (hn rfl)
  | h ρ i n m =>
    obtain ⟨h0, f, hf, h1⟩ := h
    obtain ⟨j, e, hj⟩ := nm ρ f hf
    exact ⟨h0, f, hμ j _ f hj (by rw [← e]; exact hf), fun l hl => h1 l (by rw [e, ← hL j _ hj]; exact hl)⟩
  | p ρ i o m =>
    obtain ⟨h0, f, hf, h1⟩ := h
    obtain ⟨j, e, hj⟩ := nm ρ f hf
    exact ⟨h0, f, hμ j _ f hj (by rw [← e]; exact hf), fun l hl => h1 l (by rw [e, ← hL j _ hj]; exact hl)⟩
  | e xs i o =>
    cases keep with
    | false => rw [hI rfl]; exact h
    | true => exact (hn rfl).elim

theorem backA_spec {names : List Nm} (hμ : ∀ j σ f, names[j]? = some σ → μ (0, j) = some f → μ' σ = some f) (hL : ∀ j σ, names[j]? = some σ → L' σ = L (0, j)) (hdom : ∀ g c f, μ (g, c) = some f → g = 0 ∧ c < names.length)
    (keep : Bool) (hI : keep = false → I' = I) {y : A} {u : Value} (h : AR w I μ L y u) (hn : keep = true → noShA y) : AR w I' μ' L' (backA names y) u := by
  cases y with
  | o d => exact backD_spec hμ hL hdom keep hI h hn
  | a cs =>
    obtain ⟨us, e, h2⟩ := h
    refine ⟨us, e, ?_⟩
    clear e
    induction h2 with
    | nil => exact .nil
    | cons h3 h4 ih => exact .cons (backD_spec hμ hL hdom keep hI h3 fun k => hn k _ (by simp)) (ih fun k d hd => hn k d (by simp [hd]))

theorem backE_spec {names : List Nm} (hμ : ∀ j σ f, names[j]? = some σ → μ (0, j) = some f → μ' σ = some f) (hL : ∀ j σ, names[j]? = some σ → L' σ = L (0, j)) (hdom : ∀ g c f, μ (g, c) = some f → g = 0 ∧ c < names.length)
    (keep : Bool) (hI : keep = false → I' = I) {y : E} {u : Value} (h : ER w I μ L y u) (hn : keep = true → noShE y) : ER w I' μ' L' (backE names y) u := by
  cases y with
  | x z => exact backA_spec hμ hL hdom keep hI h hn
  | t vs =>
    obtain ⟨us, e, h2⟩ := h
    refine ⟨us, e, ?_⟩
    clear e
    induction h2 with
    | nil => exact .nil
    | cons h3 h4 ih => exact .cons (backA_spec hμ hL hdom keep hI h3 fun k => hn k _ (by simp)) (ih fun k d hd => hn k d (by simp [hd]))

theorem map_flatten' {α β : Type} (f : α → β) : ∀ (l : List (List α)), (l.map (List.map f)).flatten = l.flatten.map f
  | [] => rfl
  | y :: l => by
    show y.map f ++ (l.map (List.map f)).flatten = (y ++ l.flatten).map f
    rw [map_flatten' f l, List.map_append]

theorem backR_spec {names : List Nm} (hμ : ∀ j σ f, names[j]? = some σ → μ (0, j) = some f → μ' σ = some f) (hL : ∀ j σ, names[j]? = some σ → L' σ = L (0, j)) (hdom : ∀ g c f, μ (g, c) = some f → g = 0 ∧ c < names.length)
    (keep : Bool) (hI : keep = false → I' = I) {r : Root} {f : Info} (h : RR w I μ L r f) (hn : keep = true → noShR r) : RR w I' μ' L' (backR names r) f := by
  cases r with
  | row k xs =>
    obtain ⟨h1, ⟨us, h2, h3⟩, h4⟩ := h
    refine ⟨h1, ⟨us, ?_, h3⟩, h4⟩
    cases keep with
    | false => rw [hI rfl]; exact h2
    | true =>
      have hn' : ∀ y ∈ xs.flatten, noShC y := fun y hy => by
        obtain ⟨c, hc, hy⟩ := List.mem_flatten.1 hy
        exact hn rfl c hc y hy
      clear h3
      generalize xs.flatten = l at h2 hn'
      induction h2 with
      | nil => exact .nil
      | cons h5 h6 ih => exact .cons (CR.nosh h5 (hn' _ (by simp))) (ih fun y hy => hn' y (by simp [hy]))
  | bx xs =>
    obtain ⟨h1, us, h2, h3⟩ := h
    refine ⟨fun y hy => ?_, us, ?_, by simpa using h3⟩
    · obtain ⟨z, hz, rfl⟩ := List.mem_map.1 hy
      simpa using h1 z hz
    · rw [map_flatten']
      have hn' : keep = true → ∀ y ∈ xs.flatten, noShD y := fun k y hy => by
        obtain ⟨c, hc, hy⟩ := List.mem_flatten.1 hy
        exact hn k c hc y hy
      clear h3
      generalize xs.flatten = l at h2 hn'
      induction h2 with
      | nil => exact .nil
      | cons h5 h6 ih => exact .cons (backD_spec hμ hL hdom keep hI h5 fun k => hn' k _ (by simp)) (ih fun k y hy => hn' k y (by simp [hy]))
  | it s p => exact h
  | mp es => exact h
end

theorem backR_len (names : List Nm) (r : Root) : (backR names r).len = r.len := by cases r <;> simp [backR, Root.len]

end Go.Proofs.YtcgkhljolflenaaGreatW.V
