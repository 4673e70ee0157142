/- A call of a function. No condition but each theorem's own. -/
import Derived.Test.YtcgkhljolflenaaGreatVQ
namespace Go.Proofs.YtcgkhljolflenaaGreatW.V
open Go

theorem foldl_upd : ∀ {names : List Nm} {vals : List (Option Root)} {g : Nm → Option Root}, names.length = vals.length → names.Nodup → ∀ σ,
    (names.zip vals).foldl (fun g (p : Nm × Option Root) => upd g p.1 p.2) g σ = match ix names σ with
      | some j => (match vals[j]? with | some v => v | none => none)
      | none => g σ
  | [], [], g, _, _, σ => rfl
  | [], _ :: _, _, h, _, _ => by simp at h
  | _ :: _, [], _, h, _, _ => by simp at h
  | ρ :: names, v :: vals, g, h, hn, σ => by
    simp only [List.zip_cons_cons, List.foldl_cons]
    rw [foldl_upd (by simpa using h) (List.nodup_cons.1 hn).2]
    simp only [ix]
    by_cases e : σ = ρ
    · subst e
      have : ix names σ = none := by
        cases hx : ix names σ with
        | none => rfl
        | some j => exact absurd (List.mem_of_getElem? (ix_get hx)) (List.nodup_cons.1 hn).1
      rw [this]
      simp [upd]
    · rw [if_neg e]
      cases hx : ix names σ with
      | none => simp [upd, e]
      | some j => simp

/-- The caller's names of what a call leaves. -/
def callN (ep d : Nat) (ps : List Nm) (n : Nat) : List Nm := ps ++ (List.range (n - ps.length)).map fun i => (ep, 100 * d + i)

section
variable {P : Program} {x : Ctx} {μ : Mu} {I : Imm} {s : St} {a : Act} {w : World}

theorem callN_nodup (h : RelX x μ I s a w) {ps : List Nm} (hnd : ps.Nodup) (hps : ∀ ρ ∈ ps, s.rt ρ ≠ none) {d n : Nat} (hn : n - ps.length ≤ 100) (hu : ps.length < n → s.used d = false) : (callN s.ep d ps n).Nodup := by
  unfold callN
  rw [List.nodup_append]
  refine ⟨hnd, ?_, fun ρ hρ σ hσ e => ?_⟩
  · rw [List.nodup_iff_pairwise_ne, List.pairwise_map]
    refine List.Pairwise.imp ?_ List.nodup_range
    intro i j hij e
    simp only [Prod.mk.injEq] at e
    omega
  · subst e
    obtain ⟨i, hi, rfl⟩ := List.mem_map.1 hσ
    have hi' := List.mem_range.1 hi
    obtain ⟨r, hr⟩ := Option.ne_none_iff_exists'.1 (hps _ hρ)
    obtain ⟨f, hf, _⟩ := h.root _ r hr
    rw [h.free (by omega) (hu (by omega))] at hf
    cases hf

theorem call_rel (h : RelX x μ I s a w) {f : FuncId} {ps : List Nm} {lend : Bool} {rin : List Root} {rout : List (Option Root)} {args : List E} {res : E} {us : List Value}
    (hnd : ps.Nodup) (hrin : F2 (fun ρ r' => ∃ r, s.rt ρ = some r ∧ passR ps s.rt lend r = some r') ps rin) (hargs : F2 (fun e' u => ∃ e, ER w I μ s.L e u ∧ passE ps s.rt lend e = some e') args us)
    (hsem : VSem P f args (rin.map some) res rout) {dst : Option Nat} (hd : ∀ d, dst = some d → d < x.n) (hle : ps.length ≤ rout.length) (hnew : rout.length - ps.length ≤ 100) (hu : ps.length < rout.length → ∃ d, dst = some d ∧ s.used d = false)
    (hkeep : lend = true → noShE res ∧ ∀ r, some r ∈ rout → noShR r) {ob : Prop} :
    Calls P f us.toArray w fun e w' => ∃ v, e = .returned v ∧
      Rel x (s.app dst ⟨some (backE (callN s.ep (dst.getD 0) ps rout.length) res), (callN s.ep (dst.getD 0) ps rout.length).zip (rout.map (Option.map (backR (callN s.ep (dst.getD 0) ps rout.length)))), decide (ps.length < rout.length), ob⟩) (a.put dst v) w' := by
  have hpsl : ∀ (j : Nat) ρ, ps[j]? = some ρ → ∃ r, s.rt ρ = some r := fun j ρ hj => by
    obtain ⟨_, _, r, hr, _⟩ := F2.get hrin j ρ hj; exact ⟨r, hr⟩
  have hpl : ∀ ρ ∈ ps, s.rt ρ ≠ none := fun ρ hρ => by
    obtain ⟨j, hj⟩ := List.getElem?_of_mem hρ
    obtain ⟨r, hr⟩ := hpsl j ρ hj
    rw [hr]; simp
  have hlen := F2.length hrin
  have hL : ∀ (j : Nat) ρ, ps[j]? = some ρ → lensL (rin.map some) (0, j) = s.L ρ := fun j ρ hj => by
    obtain ⟨r', hr', r, hr, hp⟩ := F2.get hrin j ρ hj
    obtain ⟨f0, _, hR, _⟩ := h.root ρ r hr
    have hlr : r'.len = r.len := by
      cases r with
      | row k xs => simp only [passR, Option.some.injEq] at hp; rw [← hp]
      | bx xs =>
        simp only [passR] at hp
        split at hp
        · rename_i xs' hxs; cases hp; exact mapO_len hxs
        · cases hp
      | it s p => simp only [passR, Option.some.injEq] at hp; rw [← hp]
      | mp es => simp only [passR, Option.some.injEq] at hp; rw [← hp]
    simp [lensL, List.getElem?_map, hr', St.L, hr, hlr]
  have hcR : Roots w (lendI μ I s ps lend) (muC ps μ) (rin.map some) (fun _ => True) := by
    refine ⟨fun j r' hj => ?_, fun j j' r r' f f' b h1 h2 h3 h4 h5 h6 => ?_, fun g c f hf => ?_⟩
    · rw [List.getElem?_map] at hj
      cases hj' : rin[j]? with
      | none => rw [hj'] at hj; cases hj
      | some r1 =>
        rw [hj'] at hj; cases hj
        have hlt : j < ps.length := by rw [hlen]; exact (List.getElem?_eq_some_iff.1 hj').1
        have hg := List.getElem?_eq_getElem hlt
        obtain ⟨r2, hr2, r, hr, hp⟩ := F2.get hrin j _ hg
        rw [hj'] at hr2; cases hr2
        obtain ⟨f0, hf0, hR, hB⟩ := h.root _ r hr
        have hpr := passR_spec h hL hR hp
        refine ⟨f0, by simp [muC, hg, hf0], hpr.1, fun b hb => ⟨(hB b hb).1, fun o ho => ?_, trivial⟩⟩
        rcases ho with ho | ⟨_, σ, hσ, hσ2, f1, hf1, hb1⟩
        · exact (hB b hb).2.1 o ho
        · exact hσ (by rw [h.apart σ _ f1 f0 b hσ2 (by rw [hr]; simp) hf1 hf0 hb1 hb]; exact List.getElem_mem hlt)
    · simp only [muC] at h3 h4
      cases g1 : ps[j]? with
      | none => rw [g1] at h3; cases h3
      | some σ =>
        cases g2 : ps[j']? with
        | none => rw [g2] at h4; cases h4
        | some σ' =>
          rw [g1] at h3; rw [g2] at h4
          have e := h.apart σ σ' f f' b (hpl σ (List.mem_of_getElem? g1)) (hpl σ' (List.mem_of_getElem? g2)) h3 h4 h5 h6
          subst e
          have := ix_of hnd g1
          rw [ix_of hnd g2] at this
          exact (Option.some.inj this).symm
    · simp only [muC] at hf
      split at hf
      · rename_i hg
        split at hf
        · rename_i σ hσ
          exact ⟨hg, by simp; rw [← hlen]; exact (List.getElem?_eq_some_iff.1 hσ).1⟩
        · cases hf
      · cases hf
  have hown : ∀ b, ownOf (muC ps μ) b → ∃ (j : Nat) (ρ : Nm) (f : Info), ps[j]? = some ρ ∧ μ ρ = some f ∧ f.b = some b := fun b ⟨ρ, f, hf, hb⟩ => by
    simp only [muC] at hf
    split at hf
    · split at hf
      · rename_i σ hσ; exact ⟨_, σ, f, hσ, hf, hb⟩
      · cases hf
    · cases hf
  have hownm : ∀ b, ownOf (muC ps μ) b → b < w.heap.size ∧ (∀ o, ¬ I b o) ∧ x.mine b := fun b hb => by
    obtain ⟨j, ρ, f, hj, hf, hb⟩ := hown b hb
    obtain ⟨r, hr⟩ := hpsl j ρ hj
    obtain ⟨f', hf', _, h3⟩ := h.root ρ r hr
    rw [hf] at hf'; cases hf'
    exact h3 b hb
  have hcI : ∀ b o, lendI μ I s ps lend b o → b < w.heap.size := fun b o hb => by
    rcases hb with hb | ⟨_, σ, _, hσ, f1, hf1, hb1⟩
    · exact h.immB b o hb
    · obtain ⟨r, hr⟩ := Option.ne_none_iff_exists'.1 hσ
      obtain ⟨f', hf', _, h3⟩ := h.root σ r hr
      rw [hf1] at hf'; cases hf'
      exact (h3 b hb1).1
  have hca : F2 (ER w (lendI μ I s ps lend) (muC ps μ) (lensL (rin.map some))) args us := F2.mono (fun e' u ⟨e, he, hp⟩ => passE_spec h hL he hp) hargs
  refine (hsem w (lendI μ I s ps lend) (muC ps μ) us hca hcR hcI).mono ?_
  rintro e w' ⟨v, I', μ', rfl, hres, hR', hst, hgr, hI', hgrow⟩
  refine ⟨v, rfl, ?_⟩
  generalize hN : callN s.ep (dst.getD 0) ps rout.length = names
  have hnn : names.Nodup := by
    rw [← hN]
    refine callN_nodup h hnd hpl hnew fun hlt => ?_
    obtain ⟨d, rfl, hud⟩ := hu hlt
    exact hud
  have hnl : names.length = rout.length := by rw [← hN]; simp [callN]; omega
  have hps' : ∀ (j : Nat), j < ps.length → names[j]? = ps[j]? := fun j hj => by rw [← hN]; simp [callN, List.getElem?_append_left hj]
  have hnw : ∀ (j : Nat) σ, names[j]? = some σ → ps.length ≤ j → ∃ d, dst = some d ∧ σ = (s.ep, 100 * d + (j - ps.length)) ∧ j - ps.length < 100 ∧ s.used d = false := fun j σ hj hle => by
    have hlt : j < rout.length := by rw [← hnl]; exact (List.getElem?_eq_some_iff.1 hj).1
    obtain ⟨d, hd1, hd2⟩ := hu (by omega)
    rw [← hN] at hj
    simp only [callN] at hj
    rw [List.getElem?_append_right hle, List.getElem?_map, List.getElem?_range (by omega)] at hj
    subst hd1
    cases hj
    exact ⟨d, rfl, rfl, by omega, hd2⟩
  -- the new state
  let μ2 : Mu := fun σ => match ix names σ with
    | some j => (match μ' (0, j) with | some f' => some f' | none => μ σ)
    | none => μ σ
  let I2 : Imm := if lend = true then I else I'
  have hμ2 : ∀ (j : Nat) σ f, names[j]? = some σ → μ' (0, j) = some f → μ2 σ = some f := fun j σ f hj hf => by
    show (match ix names σ with | some j => _ | none => _) = _
    rw [ix_of hnn hj]; simp [hf]
  have hrt2 : ∀ σ, (names.zip (rout.map (Option.map (backR names)))).foldl (fun g (p : Nm × Option Root) => upd g p.1 p.2) s.rt σ = match ix names σ with
      | some j => (match (rout.map (Option.map (backR names)))[j]? with | some v => v | none => none)
      | none => s.rt σ := fun σ => foldl_upd (by simpa using hnl) hnn σ
  generalize hs' : s.app dst ⟨some (backE names res), names.zip (rout.map (Option.map (backR names))), decide (ps.length < rout.length), ob⟩ = s'
  have hrt' : ∀ σ, s'.rt σ = match ix names σ with
      | some j => (match (rout.map (Option.map (backR names)))[j]? with | some v => v | none => none)
      | none => s.rt σ := fun σ => by rw [← hs']; exact hrt2 σ
  have hep : s'.ep = s.ep := by rw [← hs']; rfl
  have hus : ∀ d, s.used d = true → s'.used d = true := fun d hd' => by
    rw [← hs']
    simp only [St.app]
    cases decide (ps.length < rout.length) <;> cases dst <;> simp only [] <;> try exact hd'
    simp only [upd]
    split
    · rfl
    · exact hd'
  have hL2 : ∀ (j : Nat) σ, names[j]? = some σ → s'.L σ = lensL rout (0, j) := fun j σ hj => by
    simp only [St.L, hrt', ix_of hnn hj, List.getElem?_map, lensL]
    cases rout[j]? with
    | none => rfl
    | some o =>
      cases o with
      | none => rfl
      | some r => simp [backR_len]
  have hII : ∀ b o, I b o → I' b o := fun b o hb => (hst b o (.inl hb)).1
  have hI2 : ∀ b o, I2 b o → (lend = true ∧ I b o) ∨ (lend = false ∧ I' b o) := fun b o hb => by
    cases lend with
    | true => exact .inl ⟨rfl, hb⟩
    | false => exact .inr ⟨rfl, hb⟩
  have hI2' : lend = false → I2 = I' := fun e => by subst e; rfl
  have hlf : lend = false → ∀ b o, lendI μ I s ps lend b o → I b o := fun e b o hb => by
    rcases hb with hb | ⟨h1, _⟩
    · exact hb
    · rw [e] at h1; cases h1
  have hdom : ∀ g c f, μ' (g, c) = some f → g = 0 ∧ c < names.length := fun g c f hf => by rw [hnl]; exact hR'.dom g c f hf
  have hno : ∀ b o, ¬ I' b o → ¬ I2 b o := fun b o hn hb => by
    rcases hI2 b o hb with ⟨_, h1⟩ | ⟨_, h1⟩
    · exact hn (hII b o h1)
    · exact hn h1
  -- what holds of a name of the call's
  have callroot : ∀ σ j r', ix names σ = some j → s'.rt σ = some r' → ∃ r0 f', rout[j]? = some (some r0) ∧ r' = backR names r0 ∧ μ' (0, j) = some f' ∧ μ2 σ = some f' ∧ RR w' I' μ' (lensL rout) r0 f' ∧ ∀ b, f'.b = some b → b < w'.heap.size ∧ (∀ o, ¬ I' b o) ∧ (ownOf (muC ps μ) b ∨ w.heap.size ≤ b) := fun σ j r' hj hr => by
    rw [hrt', hj] at hr
    simp only [List.getElem?_map] at hr
    cases ho : rout[j]? with
    | none => rw [ho] at hr; cases hr
    | some o =>
      rw [ho] at hr
      cases o with
      | none => cases hr
      | some r0 =>
        simp only [Option.map_some, Option.some.injEq] at hr
        obtain ⟨f', hf', hRR, hB⟩ := hR'.root j r0 ho
        exact ⟨r0, f', rfl, hr.symm, hf', hμ2 j σ f' (ix_get hj) hf', hRR, hB⟩
  have old : ∀ σ r', ix names σ = none → s'.rt σ = some r' → s.rt σ = some r' ∧ μ2 σ = μ σ ∧ ∀ f b, μ σ = some f → f.b = some b → b < w.heap.size ∧ ¬ ownOf (muC ps μ) b ∧ ∀ o, ¬ I b o := fun σ r' hj hr => by
    rw [hrt', hj] at hr
    replace hr : s.rt σ = some r' := hr
    refine ⟨hr, ?_, fun f b hf hb => ?_⟩
    · show (match ix names σ with | some j => _ | none => _) = _
      rw [hj]
    · obtain ⟨f', hf', _, h3⟩ := h.root σ r' hr
      rw [hf] at hf'; cases hf'
      refine ⟨(h3 b hb).1, fun ho => ?_, (h3 b hb).2.1⟩
      obtain ⟨j, ρ, g, hj', hg, hgb⟩ := hown b ho
      have e := h.apart σ ρ f g b (by rw [hr]; simp) (hpl ρ (List.mem_of_getElem? hj')) hf hg hb hgb
      subst e
      have hlt : j < ps.length := (List.getElem?_eq_some_iff.1 hj').1
      have := ix_of hnn ((hps' j hlt).trans hj')
      rw [hj] at this; cases this
  refine ⟨μ2, I2, ?_⟩
  refine h.master (w' := w') (S := ownOf (muC ps μ)) hgr (fun k hk _ => ⟨(hownm k hk).2.2, (hownm k hk).2.1⟩) (fun b o hb => ?_) (fun b o hb => ?_) (fun σ f hf => ?_) (by cases dst <;> rfl) (by cases dst <;> simp [Act.put])
    (fun _ i e he => ?_) (fun _ σ r' hr => ?_) (fun σ σ' f f' b h1 h2 h3 h4 h5 h6 => ?_) (fun g c f hf => ?_)
  · show (if lend = true then I else I') b o
    by_cases e : lend = true
    · rw [if_pos e]; exact hb
    · rw [if_neg e]; exact hII b o hb
  · rcases hI2 b o hb with ⟨_, h1⟩ | ⟨e, h1⟩
    · exact .inl h1
    · obtain ⟨h2, h3⟩ := hI' b o h1
      rcases h3 with h3 | h3 | h3
      · exact .inl (hlf e b o h3)
      · exact .inr ⟨h2, (hownm b h3).2.2⟩
      · exact .inr ⟨h2, .inr (Nat.le_trans h.gr.size h3)⟩
  · -- kept
    cases hj : ix names σ with
    | none =>
      refine ⟨f, ?_, fun l' hl' => ⟨l', ?_, Nat.le_refl _, fun _ => rfl⟩⟩
      · show (match ix names σ with | some j => _ | none => _) = _
        rw [hj]; exact hf
      · simp only [St.L, hrt', hj] at hl'; exact hl'
    | some j =>
      have hgj := ix_get hj
      have hlt : j < ps.length := by
        rcases Nat.lt_or_ge j ps.length with h1 | h1
        · exact h1
        · obtain ⟨d, _, e, h2, h3⟩ := hnw j σ hgj h1
          rw [e, h.free h2 h3] at hf; cases hf
      have hpj : ps[j]? = some σ := by rw [← hps' j hlt]; exact hgj
      cases hm : μ' (0, j) with
      | none =>
        refine ⟨f, ?_, fun l' hl' => ?_⟩
        · show (match ix names σ with | some j => (match μ' (0, j) with | some f' => some f' | none => μ σ) | none => _) = _
          rw [hj]; simp only [hm]; exact hf
        · exfalso
          cases hr : s'.rt σ with
          | none => simp [St.L, hr] at hl'
          | some r' =>
            obtain ⟨_, f', _, _, hf', _⟩ := callroot σ j r' hj hr
            rw [hm] at hf'; cases hf'
      | some f' =>
        refine ⟨f', hμ2 j σ f' hgj hm, fun l' hl' => ?_⟩
        cases hr : s'.rt σ with
        | none => simp [St.L, hr] at hl'
        | some r' =>
          obtain ⟨r0, f1, ho, hb0, hf1, _⟩ := callroot σ j r' hj hr
          rw [hm] at hf1; cases hf1
          obtain ⟨ri, hri, r, hrr, hp⟩ := F2.get hrin j σ hpj
          have hg2 := hgrow j ri r0 f (by simp [hri]) ho (by simp [muC, hpj, hf])
          have hli : ri.len = r.len := by
            have := hL j σ hpj
            simp [lensL, hri, St.L, hrr] at this
            exact this
          have hl0 : l' = r0.len := by simp [St.L, hr, hb0, backR_len] at hl'; omega
          refine ⟨r.len, by simp [St.L, hrr], by omega, fun e => ?_⟩
          have := hg2.2 (by omega)
          rw [hm] at this; cases this; rfl
  · -- slots
    have hE : ER w' I2 μ2 s'.L (backE names res) v := backE_spec hμ2 hL2 hdom lend hI2' hres fun k => (hkeep k).1
    rw [← hs'] at he
    cases dst with
    | none => exact .inl ⟨by simpa [St.app] using he, rfl⟩
    | some d =>
      simp only [St.app, upd] at he
      split at he
      · rename_i hi
        cases he; subst hi
        exact .inr ⟨v, tmps_put_same (by rw [h.tsize]; exact hd _ rfl), hE⟩
      · rename_i hi
        exact .inl ⟨he, tmps_put_ne hi⟩
  · cases hj : ix names σ with
    | some j =>
      obtain ⟨r0, f', ho, rfl, _, hm, hRR, hB⟩ := callroot σ j r' hj hr
      refine .inr ⟨f', hm, backR_spec hμ2 hL2 hdom lend hI2' hRR fun k => (hkeep k).2 r0 (List.mem_of_getElem? ho), fun b hb => ⟨(hB b hb).1, fun o => hno b o ((hB b hb).2.1 o), ?_⟩⟩
      rcases (hB b hb).2.2 with h1 | h1
      · exact (hownm b h1).2.2
      · exact .inr (Nat.le_trans h.gr.size h1)
    | none =>
      obtain ⟨h1, h2, h3⟩ := old σ r' hj hr
      refine .inl ⟨h1, h2, fun f b hf hb => ⟨(h3 f b hf hb).2.1, fun o ho => ?_⟩⟩
      obtain ⟨h4, h5, h6⟩ := h3 f b hf hb
      rcases hI2 b o ho with ⟨_, h7⟩ | ⟨e, h7⟩
      · exact h6 o h7
      · rcases (hI' b o h7).2 with h8 | h8 | h8
        · exact h6 o (hlf e b o h8)
        · exact h5 h8
        · omega
  · -- blocks are apart
    obtain ⟨r1, hr1⟩ := Option.ne_none_iff_exists'.1 h1
    obtain ⟨r2, hr2⟩ := Option.ne_none_iff_exists'.1 h2
    cases hj : ix names σ with
    | some j =>
      obtain ⟨a0, fa, hoa, _, hfa, hma, _, hBa⟩ := callroot σ j r1 hj hr1
      rw [hma] at h3; cases h3
      cases hj' : ix names σ' with
      | some j' =>
        obtain ⟨b0, fb, hob', _, hfb, hmb, _, hBb⟩ := callroot σ' j' r2 hj' hr2
        rw [hmb] at h4; cases h4
        have e := hR'.apart j j' a0 b0 _ _ b hoa hob' hfa hfb h5 h6
        subst e
        have e1 := ix_get hj
        rw [ix_get hj'] at e1
        exact (Option.some.inj e1).symm
      | none =>
        obtain ⟨_, hm2, h7⟩ := old σ' r2 hj' hr2
        rw [hm2] at h4
        obtain ⟨h8, h9, _⟩ := h7 f' b h4 h6
        rcases (hBa b h5).2.2 with h10 | h10
        · exact absurd h10 h9
        · omega
    | none =>
      obtain ⟨hs1, hm1, h7⟩ := old σ r1 hj hr1
      rw [hm1] at h3
      obtain ⟨h8, h9, _⟩ := h7 f b h3 h5
      cases hj' : ix names σ' with
      | some j' =>
        obtain ⟨b0, fb, hob', _, hfb, hmb, _, hBb⟩ := callroot σ' j' r2 hj' hr2
        rw [hmb] at h4; cases h4
        rcases (hBb b h6).2.2 with h10 | h10
        · exact absurd h10 h9
        · omega
      | none =>
        obtain ⟨hs2, hm2, _⟩ := old σ' r2 hj' hr2
        rw [hm2] at h4
        exact h.apart σ σ' f f' b (by rw [hs1]; simp) (by rw [hs2]; simp) h3 h4 h5 h6
  · -- fresh
    rw [hep]
    have fr : ∀ g c f, μ (g, c) = some f → g < s.ep ∨ (g = s.ep ∧ s'.used (c / 100) = true) := fun g c f hf => by
      rcases h.fresh g c f hf with h1 | ⟨h1, h2⟩
      · exact .inl h1
      · exact .inr ⟨h1, hus _ h2⟩
    cases hj : ix names (g, c) with
    | none =>
      have : μ2 (g, c) = μ (g, c) := by
        show (match ix names (g, c) with | some j => _ | none => _) = _
        rw [hj]
      rw [this] at hf
      exact fr g c f hf
    | some j =>
      have hgj := ix_get hj
      rcases Nat.lt_or_ge j ps.length with h1 | h1
      · obtain ⟨r, hr⟩ := hpsl j (g, c) (by rw [← hps' j h1]; exact hgj)
        obtain ⟨f0, hf0, _⟩ := h.root _ r hr
        exact fr g c f0 hf0
      · obtain ⟨d, hd1, e, h2, h3⟩ := hnw j (g, c) hgj h1
        cases e
        refine .inr ⟨rfl, ?_⟩
        have hlt : ps.length < rout.length := by
          have := (List.getElem?_eq_some_iff.1 hgj).1
          omega
        rw [show (100 * d + (j - ps.length)) / 100 = d by omega, ← hs', hd1]
        simp [St.app, hlt, upd]
end

end Go.Proofs.YtcgkhljolflenaaGreatW.V
