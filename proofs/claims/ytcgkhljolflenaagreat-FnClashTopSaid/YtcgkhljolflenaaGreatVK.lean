/- Slices that are made; a list of one's own that is given away. No condition but each theorem's own. -/
import Derived.Test.YtcgkhljolflenaaGreatVJ
namespace Go.Proofs.YtcgkhljolflenaaGreatW.V
open Go

section
variable {P : Program} {x : Ctx} {μ : Mu} {I : Imm} {s : St} {a : Act} {w : World}

/-- The block of a name. -/
def blk (μ : Mu) (ρ : Nm) (k : Nat) : Prop := ∃ f, μ ρ = some f ∧ f.b = some k

/-- A list of one's own is never written again: what it held, everybody may read. -/
theorem RelX.shut (h : RelX x μ I s a w) {ρ : Nm} {r : Root} (hr : s.rt ρ = some r) : RelX x μ (fun k j => I k j ∨ blk μ ρ k) { s with rt := upd s.rt ρ none } a w := by
  obtain ⟨f, hf, hR, hB⟩ := h.root ρ r hr
  have hnb : ∀ k, blk μ ρ k → k < w.heap.size ∧ x.mine k := fun k ⟨f', hf', hk⟩ => by
    rw [hf] at hf'; cases hf'
    exact ⟨(hB k hk).1, (hB k hk).2.2⟩
  refine h.master (S := fun _ => False) (Gr.refl w _) (fun _ h _ => h.elim) (fun _ _ h => .inl h) (fun k j hk => ?_) (fun σ g hg => ⟨g, hg, fun l hl => ⟨l, ?_, Nat.le_refl _, fun _ => rfl⟩⟩) rfl rfl
    (fun _ i e he => .inl ⟨he, rfl⟩) (fun _ σ r' hr' => ?_) (fun σ σ' g g' b h1 h2 h3 h4 h5 h6 => ?_) h.fresh
  · rcases hk with hk | hk
    · exact .inl hk
    · exact .inr (hnb k hk)
  · simp only [St.L, upd] at hl ⊢
    split at hl
    · simp at hl
    · exact hl
  · simp only [upd] at hr'
    split at hr'
    · cases hr'
    · rename_i hne
      refine .inl ⟨hr', rfl, fun g b hg hb => ⟨fun h => h, fun o ho => ?_⟩⟩
      rcases ho with ho | ⟨f', hf', hk⟩
      · obtain ⟨g', hg', _, h3⟩ := h.root σ r' hr'
        rw [hg] at hg'; cases hg'
        exact (h3 b hb).2.1 o ho
      · exact hne (h.apart σ ρ g f' b (by rw [hr']; simp) (by rw [hr]; simp) hg hf' hb hk)
  · have nn : ∀ σ, upd s.rt ρ none σ ≠ none → s.rt σ ≠ none := fun σ hσ => by
      simp only [upd] at hσ
      split at hσ
      · exact absurd rfl hσ
      · exact hσ
    exact h.apart σ σ' g g' b (nn σ h1) (nn σ' h2) h3 h4 h5 h6

theorem VB.sb {I' : Imm} {xs : List (List C)} {b o k : Nat} {us : List Value} (h : VB w I xs b o k us) (hi : ∀ (j : Nat) u, us[j]? = some u → I' b (o + j)) (hI : ∀ k j, I k j → I' k j) : SB w I' xs b o k us :=
  ⟨h.hk, (F2.length h.hr).symm, fun j u hu => ⟨h.hc j u hu, hi j u hu⟩, fun j y u hy hu => by
    obtain ⟨v, hv, hr⟩ := F2.get h.hr j y hy
    rw [hu] at hv; cases hv
    exact hr.mono fun b o hb => ⟨hI b o hb, rfl⟩⟩

/-- A handle as a list that is shared, once its root is shut. -/
theorem shut_er (h : RelX x μ I s a w) {ρ : Nm} {i n m : Nat} {u : Value} (he : ER w I μ s.L (.x (.o (.h ρ i n m))) u) {xs : List (List C)} (hv : viewE s.rt (.x (.o (.h ρ i n m))) = some xs) :
    CR w (fun k j => I k j ∨ blk μ ρ k) (.s xs) u := by
  obtain ⟨q, c, e1, hc, h1⟩ := view_spec h he hv
  rcases h1 with rfl | ⟨b, o, k, us, rfl, hVB, hown⟩
  · rw [e1]; exact .nil _ _
  · rw [e1]
    refine (hVB.sb (I' := fun k j => I k j ∨ blk μ ρ k) (fun j u hu => ?_) (fun _ _ h => .inl h)).cr hc
    rcases hown with h2 | ⟨ρ', i', n', m', f, e2, hf, hb⟩
    · exact .inl (h2 j u hu)
    · cases e2
      exact .inr ⟨f, hf, hb⟩

/-- Cells as closed ones; the roots that are shut for it. -/
def shutD (rt : Nm → Option Root) : List D → Option (List C × List Nm)
  | [] => some ([], [])
  | .c y :: l => match shutD rt l with
    | some (ys, ρs) => some (y :: ys, ρs)
    | none => none
  | .h ρ i n m :: l => match viewE rt (.x (.o (.h ρ i n m))), shutD (upd rt ρ none) l with
    | some xs, some (ys, ρs) => some (.s xs :: ys, ρ :: ρs)
    | _, _ => none
  | _ :: _ => none

def St.shuts (s : St) : List Nm → St
  | [] => s
  | ρ :: l => St.shuts { s with rt := upd s.rt ρ none } l

theorem shutD_spec : ∀ {l : List D} {s : St} {I : Imm} {ys : List C} {ρs : List Nm} {us : List Value}, RelX x μ I s a w → shutD s.rt l = some (ys, ρs) → F2 (DR w I μ s.L) l us →
    ∃ I', RelX x μ I' (s.shuts ρs) a w ∧ (∀ k j, I k j → I' k j) ∧ F2 (CR w I') ys us
  | [], s, I, ys, ρs, us, h, hs, hl => by
    simp only [shutD, Option.some.injEq, Prod.mk.injEq] at hs
    obtain ⟨rfl, rfl⟩ := hs
    cases hl
    exact ⟨I, h, fun _ _ h => h, .nil⟩
  | .c y :: l, s, I, ys, ρs, us, h, hs, hl => by
    simp only [shutD] at hs
    split at hs
    · rename_i ys' ρs' hs'
      cases hs
      cases hl with
      | cons h1 h2 =>
        obtain ⟨I', a1, a2, a3⟩ := shutD_spec h hs' h2
        exact ⟨I', a1, a2, .cons (CR.mono (fun b o hb => ⟨a2 b o hb, rfl⟩) h1) a3⟩
    · cases hs
  | .h ρ i n m :: l, s, I, ys, ρs, us, h, hs, hl => by
    simp only [shutD] at hs
    split at hs
    · rename_i xs ys' ρs' hv hs'
      cases hs
      cases hl with
      | cons h1 h2 =>
        have hr : ∃ r, s.rt ρ = some r := by
          unfold viewE at hv
          simp only at hv
          split at hv
          · rename_i r kk xs' hr; exact ⟨_, hr⟩
          · cases hv
        obtain ⟨r, hr⟩ := hr
        have hsh := h.shut hr
        have he := shut_er h (h1 : ER w I μ s.L (.x (.o (.h ρ i n m))) _) hv
        have hK : Kept μ s.L μ (St.L { s with rt := upd s.rt ρ none }) := fun σ g hg => ⟨g, hg, fun l' hl' => ⟨l', by
          simp only [St.L, upd] at hl' ⊢
          split at hl'
          · simp at hl'
          · exact hl', Nat.le_refl _, fun _ => rfl⟩⟩
        obtain ⟨I', a1, a2, a3⟩ := shutD_spec (s := { s with rt := upd s.rt ρ none }) hsh hs' (F2.mono (fun _ _ => DR.mono (fun b o hb => ⟨.inl hb, rfl⟩) hK) h2)
        exact ⟨I', a1, fun k j hk => a2 k j (.inl hk), .cons (he.mono fun b o hb => ⟨a2 b o hb, rfl⟩) a3⟩
    · cases hs
  | .p .. :: _, _, _, _, _, _, _, hs, _ => by simp [shutD] at hs
  | .e .. :: _, _, _, _, _, _, _, hs, _ => by simp [shutD] at hs
end

end Go.Proofs.YtcgkhljolflenaaGreatW.V
