/- Lists of one's own that are given away where they stand. No condition but each theorem's own. -/
import Derived.Test.YtcgkhljolflenaaGreatVW
namespace Go.Proofs.YtcgkhljolflenaaGreatW.V
open Go

def fzD (rt : Nm → Option Root) (ρ : Nm) : D → D
  | .c y => .c y
  | .h σ i n m => if σ = ρ then (match viewE rt (.x (.o (.h σ i n m))) with
    | some xs => .c (.s xs)
    | none => .h σ i n m) else .h σ i n m
  | .p σ i o m => .p σ i o m
  | .e xs i o => .e xs i o
def fzA (rt : Nm → Option Root) (ρ : Nm) : A → A
  | .o d => .o (fzD rt ρ d)
  | .a cs => .a (cs.map (fzD rt ρ))
def fzE (rt : Nm → Option Root) (ρ : Nm) : E → E
  | .x y => .x (fzA rt ρ y)
  | .t vs => .t (vs.map (fzA rt ρ))
def fzR (rt : Nm → Option Root) (ρ : Nm) : Root → Root
  | .row k xs => .row k xs
  | .bx xs => .bx (xs.map (List.map (fzD rt ρ)))
  | .it b p => .it b p
  | .mp es => .mp es
theorem fzR_len (rt : Nm → Option Root) (ρ : Nm) (r : Root) : (fzR rt ρ r).len = r.len := by cases r <;> simp [fzR, Root.len]

theorem F2.mapl {α β γ : Type} {R : α → β → Prop} {S : γ → β → Prop} (f : α → γ) (h : ∀ a b, R a b → S (f a) b) : ∀ {xs : List α} {ys : List β}, F2 R xs ys → F2 S (xs.map f) ys
  | _, _, .nil => .nil
  | _, _, .cons a b => .cons (h _ _ a) (F2.mapl f h b)

section
variable {x : Ctx} {μ : Mu} {I : Imm} {s : St} {a : Act} {w : World}

theorem fzD_spec (h : RelX x μ I s a w) {ρ : Nm} {L' : Lens} (hL : ∀ σ n, L' σ = some n → s.L σ = some n) {d : D} {u : Value} (hd : DR w I μ s.L d u) : DR w (fun k j => I k j ∨ blk μ ρ k) μ L' (fzD s.rt ρ d) u := by
  have hm : ∀ {d : D}, DR w I μ s.L d u → DR w (fun k j => I k j ∨ blk μ ρ k) μ L' d u := fun hd =>
    DR.mono (fun b o hb => ⟨.inl hb, rfl⟩) (fun σ g hg => ⟨g, hg, fun l hl => ⟨l, hL σ l hl, Nat.le_refl _, fun _ => rfl⟩⟩) hd
  cases d with
  | h σ i n m =>
    simp only [fzD]
    split
    · rename_i e
      subst e
      split
      · rename_i xs hv
        exact shut_er h (show ER w I μ s.L (.x (.o (.h σ i n m))) u from hd) hv
      · exact hm hd
    · exact hm hd
  | _ => exact hm hd
theorem fzA_spec (h : RelX x μ I s a w) {ρ : Nm} {L' : Lens} (hL : ∀ σ n, L' σ = some n → s.L σ = some n) {y : A} {u : Value} (hd : AR w I μ s.L y u) : AR w (fun k j => I k j ∨ blk μ ρ k) μ L' (fzA s.rt ρ y) u := by
  cases y with
  | o d => exact fzD_spec h hL hd
  | a cs => obtain ⟨us, e, h2⟩ := hd; exact ⟨us, e, F2.mapl (R := DR w I μ s.L) (S := DR w (fun k j => I k j ∨ blk μ ρ k) μ L') _ (fun _ _ h1 => fzD_spec h hL h1) h2⟩
theorem fzE_spec (h : RelX x μ I s a w) {ρ : Nm} {L' : Lens} (hL : ∀ σ n, L' σ = some n → s.L σ = some n) {y : E} {u : Value} (hd : ER w I μ s.L y u) : ER w (fun k j => I k j ∨ blk μ ρ k) μ L' (fzE s.rt ρ y) u := by
  cases y with
  | x y => exact fzA_spec h hL hd
  | t vs => obtain ⟨us, e, h2⟩ := hd; exact ⟨us, e, F2.mapl (R := AR w I μ s.L) (S := AR w (fun k j => I k j ∨ blk μ ρ k) μ L') _ (fun _ _ h1 => fzA_spec h hL h1) h2⟩

theorem RelX.freeze (h : RelX x μ I s a w) {ρ : Nm} (hρ : s.rt ρ ≠ none) {s' : St} (hep : s'.ep = s.ep) (hus : s'.used = s.used) (henv : ∀ i e, s'.env i = some e → ∃ e0, s.env i = some e0 ∧ e = fzE s.rt ρ e0) (hrt : ∀ σ r, s'.rt σ = some r → σ ≠ ρ ∧ ∃ r0, s.rt σ = some r0 ∧ r = fzR s.rt ρ r0) :
    RelX x μ (fun k j => I k j ∨ blk μ ρ k) s' a w := by
  obtain ⟨r, hr⟩ := Option.ne_none_iff_exists'.1 hρ
  have h1 := h.shut hr
  have hL : ∀ σ n, s'.L σ = some n → s.L σ = some n := fun σ n hn => by
    simp only [St.L, Option.map_eq_some_iff] at hn ⊢
    obtain ⟨r1, h2, h3⟩ := hn
    obtain ⟨_, r0, h4, rfl⟩ := hrt σ r1 h2
    exact ⟨r0, h4, by rw [← h3, fzR_len]⟩
  have hne : ∀ σ, s'.rt σ ≠ none → upd s.rt ρ none σ ≠ none := fun σ hσ => by
    obtain ⟨r1, h2⟩ := Option.ne_none_iff_exists'.1 hσ
    obtain ⟨h3, r0, h4, _⟩ := hrt σ r1 h2
    rw [upd_ne _ _ h3, h4]; simp
  refine ⟨h1.defers, h1.tsize, fun i e he => ?_, fun σ r1 hr1 => ?_, fun σ σ' f f' b a1 a2 => h1.apart σ σ' f f' b (hne σ a1) (hne σ' a2), fun g c f hf => ?_, h1.imm0, h1.immB, h1.immN, h1.gr, fun σ f hf => ?_⟩
  · obtain ⟨e0, h2, rfl⟩ := henv i e he
    obtain ⟨u, hu, hE⟩ := h.env i e0 h2
    exact ⟨u, hu, fzE_spec h hL hE⟩
  · obtain ⟨h2, r0, h3, rfl⟩ := hrt σ r1 hr1
    obtain ⟨f, hf, hR, _⟩ := h.root σ r0 h3
    obtain ⟨f', hf', _, hB⟩ := h1.root σ r0 (by show upd s.rt ρ none σ = _; rw [upd_ne _ _ h2, h3])
    rw [hf] at hf'; cases hf'
    refine ⟨f, hf, ?_, hB⟩
    cases r0 with
    | row k xs => obtain ⟨b1, ⟨us, b2, b3⟩, b4⟩ := hR; exact ⟨b1, ⟨us, F2.mono (fun _ _ => CR.mono fun b o hb => ⟨.inl hb, rfl⟩) b2, b3⟩, b4⟩
    | bx xs =>
      obtain ⟨b1, us, b2, b3⟩ := hR
      refine ⟨fun y hy => ?_, us, ?_, by simpa using b3⟩
      · obtain ⟨z, hz, rfl⟩ := List.mem_map.1 hy
        simpa using b1 z hz
      · rw [map_flatten']
        exact F2.mapl (R := DR w I μ s.L) (S := DR w (fun k j => I k j ∨ blk μ ρ k) μ s'.L) _ (fun _ _ hd => fzD_spec h hL hd) b2
    | it b p => exact hR
    | mp es => exact hR
  · rw [hep, hus]; exact h.fresh g c f hf
  · obtain ⟨f', hf', h2⟩ := h.kept σ f hf
    exact ⟨f', hf', fun n hn => h2 n (hL σ n hn)⟩
end

def mapV {κ α β : Type} (f : α → β) : List (κ × α) → List (κ × β)
  | [] => []
  | (k, v) :: l => (k, f v) :: mapV f l
theorem lk_mapV {κ α β : Type} [DecidableEq κ] {f : α → β} : ∀ {l : List (κ × α)} {q : κ}, lk (mapV f l) q = (lk l q).map f
  | [], _ => rfl
  | (k, v) :: l, q => by
    simp only [mapV, lk]
    split
    · rfl
    · exact lk_mapV

def LS.freeze1 (l : LS) (ρ : Nm) : LS := match lk l.rt ρ with
  | some (.row _ _) => ⟨mapV (fzE (lk l.rt) ρ) l.env, mapV (fzR (lk l.rt) ρ) (rmv ρ l.rt), l.ep⟩
  | _ => l
def LS.freeze (l : LS) : List Nm → LS
  | [] => l
  | ρ :: ρs => (l.freeze1 ρ).freeze ρs

theorem Rel.freeze1 {x : Ctx} {l : LS} {used : Nat → Bool} {a : Act} {w : World} (h : Rel x (l.den used) a w) (ρ : Nm) : Rel x ((l.freeze1 ρ).den used) a w := by
  unfold LS.freeze1
  split
  · rename_i k xs hr
    obtain ⟨μ, I, hX⟩ := h
    refine ⟨μ, _, hX.freeze (ρ := ρ) (by show lk l.rt ρ ≠ none; rw [hr]; simp) rfl rfl (fun i e he => ?_) (fun σ r hσ => ?_)⟩
    · have he' : (lk l.env i).map (fzE (lk l.rt) ρ) = some e := by rw [← lk_mapV]; exact he
      obtain ⟨e0, h0, rfl⟩ := Option.map_eq_some_iff.1 he'
      exact ⟨e0, h0, rfl⟩
    · have hr' : (lk (rmv ρ l.rt) σ).map (fzR (lk l.rt) ρ) = some r := by rw [← lk_mapV]; exact hσ
      obtain ⟨r0, h0, rfl⟩ := Option.map_eq_some_iff.1 hr'
      rw [lk_rmv] at h0
      split at h0
      · cases h0
      · rename_i hne; exact ⟨hne, r0, h0, rfl⟩
  · exact h
theorem Rel.freeze {x : Ctx} {used : Nat → Bool} {a : Act} {w : World} : ∀ (ρs : List Nm) {l : LS}, Rel x (l.den used) a w → Rel x ((l.freeze ρs).den used) a w
  | [], _, h => h
  | ρ :: ρs, _, h => Rel.freeze ρs (h.freeze1 ρ)

/-- The rows of one's own that values lead to. -/
def rowsN (l : LS) (ρs : List Nm) : List Nm := dd ((reach (lk l.rt) 6 ρs).filter fun ρ => match lk l.rt ρ with
  | some (.row _ _) => true
  | _ => false)

end Go.Proofs.YtcgkhljolflenaaGreatW.V
