/- Slices that are made and that grow. No condition but each theorem's own. -/
import Derived.Test.YtcgkhljolflenaaGreatVK
namespace Go.Proofs.YtcgkhljolflenaaGreatW.V
open Go

section
variable {P : Program} {x : Ctx} {μ : Mu} {I : Imm} {s : St} {a : Act} {w : World}

/-- A root that is written, or that has grown, be it in a new block. -/
theorem RelX.regrow (h : RelX x μ I s a w) {ρ : Nm} {r r' : Root} (hr : s.rt ρ = some r) {f f' : Info} (hf : μ ρ = some f) {w' : World} {S : Nat → Prop} (hS : ∀ k, S k → f.b = some k) (hg : Gr w w' S) (hff : f' = f ∨ r.len < r'.len) (hl : r.len ≤ r'.len)
    (hb : ∀ b, f'.b = some b → f.b = some b ∨ (w.heap.size ≤ b ∧ b < w'.heap.size))
    (hR : Stays w I w' I → Kept μ s.L (upd μ ρ (some f')) (St.L { s with rt := upd s.rt ρ (some r') }) → RR w' I (upd μ ρ (some f')) (St.L { s with rt := upd s.rt ρ (some r') }) r' f') :
    RelX x (upd μ ρ (some f')) I { s with rt := upd s.rt ρ (some r') } a w' := by
  obtain ⟨f0, hf0, _, h3⟩ := h.root ρ r hr
  rw [hf] at hf0; cases hf0
  have hK : Kept μ s.L (upd μ ρ (some f')) (St.L { s with rt := upd s.rt ρ (some r') }) := fun σ g hg => by
    by_cases e : σ = ρ
    · subst e
      rw [hf] at hg; cases hg
      refine ⟨f', upd_same _ _ _, fun l' hl' => ⟨r.len, by simp [St.L, hr], ?_, fun e => ?_⟩⟩
      · simp [St.L, upd] at hl'; omega
      · simp [St.L, upd] at hl'
        rcases hff with hff | hff
        · exact hff
        · omega
    · refine ⟨g, by rw [upd_ne _ _ e]; exact hg, fun l' hl' => ⟨l', ?_, Nat.le_refl _, fun _ => rfl⟩⟩
      simpa [St.L, upd, e] using hl'
  have hfree : ∀ b, f'.b = some b → b < w'.heap.size ∧ (∀ o, ¬ I b o) ∧ x.mine b := fun b hb' => by
    rcases hb b hb' with h1 | ⟨h1, h2⟩
    · exact ⟨Nat.lt_of_lt_of_le (h3 b h1).1 hg.size, (h3 b h1).2⟩
    · exact ⟨h2, fun o ho => by have := h.immB b o ho; omega, .inr (Nat.le_trans h.gr.size h1)⟩
  have nn : ∀ σ, upd s.rt ρ (some r') σ ≠ none → s.rt σ ≠ none := fun σ hσ => by
    simp only [upd] at hσ
    split at hσ
    · rename_i e; subst e; rw [hr]; simp
    · exact hσ
  have apart1 : ∀ σ g b, σ ≠ ρ → s.rt σ ≠ none → μ σ = some g → g.b = some b → f'.b ≠ some b := fun σ g b hne hσ hg' hgb hb' => by
    rcases hb b hb' with h1 | ⟨h1, _⟩
    · exact hne (h.apart σ ρ g f b hσ (by rw [hr]; simp) hg' hf hgb h1)
    · obtain ⟨r1, hr1⟩ := Option.ne_none_iff_exists'.1 hσ
      obtain ⟨g', hg1, _, h4⟩ := h.root σ r1 hr1
      rw [hg'] at hg1; cases hg1
      have := (h4 b hgb).1
      omega
  refine h.master (S := S) hg (fun k hk _ => ⟨(h3 k (hS k hk)).2.2, (h3 k (hS k hk)).2.1⟩) (fun _ _ h => h) (fun _ _ h => .inl h) hK rfl rfl (fun _ i e he => .inl ⟨he, rfl⟩) (fun hst σ r1 hr1 => ?_) (fun σ σ' g g' b h1 h2 h4 h5 h6 h7 => ?_) (fun g c f1 hf1 => ?_)
  · simp only [upd] at hr1
    split at hr1
    · rename_i e
      cases hr1; subst e
      exact .inr ⟨f', upd_same _ _ _, hR hst hK, hfree⟩
    · rename_i hne
      refine .inl ⟨hr1, upd_ne _ _ hne, fun g b hg' hgb => ⟨fun hs => ?_, ?_⟩⟩
      · exact hne (h.apart σ ρ g f b (by rw [hr1]; simp) (by rw [hr]; simp) hg' hf hgb (hS b hs))
      · obtain ⟨g', hg1, _, h4⟩ := h.root σ r1 hr1
        rw [hg'] at hg1; cases hg1
        exact (h4 b hgb).2.1
  · by_cases e1 : σ = ρ
    · by_cases e2 : σ' = ρ
      · rw [e1, e2]
      · subst e1
        rw [upd_same] at h4; cases h4
        rw [upd_ne _ _ e2] at h5
        exact absurd h6 (apart1 σ' g' b e2 (nn σ' h2) h5 h7)
    · rw [upd_ne _ _ e1] at h4
      by_cases e2 : σ' = ρ
      · subst e2
        rw [upd_same] at h5; cases h5
        exact absurd h7 (apart1 σ g b e1 (nn σ h1) h4 h6)
      · rw [upd_ne _ _ e2] at h5
        exact h.apart σ σ' g g' b (nn σ h1) (nn σ' h2) h4 h5 h6 h7
  · by_cases e : (g, c) = ρ
    · exact h.fresh g c f (by rw [e]; exact hf)
    · rw [upd_ne _ _ e] at hf1
      exact h.fresh g c f1 hf1

/-- What is appended. -/
structure Src (P : Program) (w : World) (k m : Nat) (v : Value) (news : List Value) : Prop where
  len : (Builtin.lenOf v).run P w = .ok m w
  cells : ∀ w', Alk w w' → (Builtin.firstCells k m v).run P w' = .ok news.toArray w'
  length : news.length = m * k

theorem run_app {t t' ty e : TypeId} {d1 d2 de : TD} (ht : td P t = some d1) (hk : d1.k = .slice e) (ht' : td P t' = some d2) (hk' : (∃ e', d2.k = .slice e') ∨ d2.k = .str) (hte : td P e = some de) (hzl : de.zero.length = de.size)
    {f : Info} {n : Nat} {olds : List Value} (hown : Own w f n olds) (hfk : f.k = de.size) {v : Value} (hv : HR f 0 n v) {m : Nat} {sv : Value} {news : List Value} (hs : Src P w de.size m sv news) (h1 : ∀ u ∈ news, u.oneCell' = true)
    (hbytes : (n + m) * de.bytes ≤ 140737488355328) (h63 : n + m ≤ maxLen) :
    ∃ v' w', (Builtin.append_ #[t, t'] ty #[v, sv]).run P w = .ok v' w' ∧
      ((∃ g cur, f.b = some g ∧ w.heap[g]? = some (.cells cur f.e (0, 0)) ∧ n + m ≤ f.cap ∧ v' = .slice (some ⟨g, 0, none⟩) (n + m) f.cap ∧ w' = w.setRow g (sp cur.toList (n * de.size) news).toArray) ∨
       (f.b = none ∧ m = 0 ∧ v' = v ∧ w' = w) ∨
       (∃ cap rest, v' = .slice (some ⟨w.heap.size, 0, none⟩) (n + m) cap ∧ w' = w.drew.alloc (.cells (olds ++ news ++ rest).toArray e) ∧ n + m ≤ cap ∧ cap ≤ maxLen ∧ (olds ++ news ++ rest).length = cap * de.size ∧ 0 < m)) := by
  obtain ⟨D1, i1, z1, hD1, _⟩ := td_spec ht
  obtain ⟨De, ie, ze, hDe, hie, hze, _, hsz, hby, hzc⟩ := td_spec hte
  have hu := td_slice ht hk
  have hU : (∃ e', P.underlying t' = some (.slice e')) ∨ P.underlying t' = some .string := by
    rcases hk' with ⟨e', hk'⟩ | hk'
    · exact .inl ⟨e', td_slice ht' hk'⟩
    · exact .inr (td_str ht' hk')
  have hzs : ze.cells.size = de.size := by rw [← hzl, ← hzc]; simp
  have hsmall : n + m ≤ 9223372036854775807 := by simp only [maxLen] at h63; omega
  have grow : ∀ (b : Option Addr) (cap : Nat), cap < n + m → 0 < m → olds.length = n * de.size → v = .slice b n cap → (∀ w', Alk w w' → (Builtin.firstCells de.size n v).run P w' = .ok olds.toArray w') →
      ∃ v' w', (Builtin.append_ #[t, t'] ty #[v, sv]).run P w = .ok v' w' ∧ ∃ cap rest, v' = .slice (some ⟨w.heap.size, 0, none⟩) (n + m) cap ∧ w' = w.drew.alloc (.cells (olds ++ news ++ rest).toArray e) ∧ n + m ≤ cap ∧ cap ≤ maxLen ∧ (olds ++ news ++ rest).length = cap * de.size ∧ 0 < m := by
    intro b cap hlt hm hol hvb hfc
    subst hvb
    have hn : ¬ (n + m ≤ cap) := by omega
    have h63' : ¬ (9223372036854775807 < ((n : Int) + (m : Int))) := by omega
    have hfit := growslice_fits (bytes := de.bytes) hlt hbytes
    have h48' : ¬ (281474976710656 < Builtin.nextslicecap (n + m) cap * de.bytes) := by omega
    have a1 := hs.cells w.drew ⟨rfl, rfl, rfl, rfl⟩
    have a2 := hfc w.drew ⟨rfl, rfl, rfl, rfl⟩
    refine ⟨_, w.drew.alloc (.cells (olds.toArray ++ news.toArray ++ Builtin.zeroCells ze.cells (grownCap w (n + m) cap e - (n + m))) e), ?_, grownCap w (n + m) cap e, (Builtin.zeroCells ze.cells (grownCap w (n + m) cap e - (n + m))).toList, rfl, ?_, grownCap_ge w _ _ _, grownCap_le_maxLen w _ _ _ h63, ?_, hm⟩
    · rcases hU with ⟨e', hu2⟩ | hu2 <;> (simp [Builtin.append_, run_underlying hu, run_underlying hu2, sizeOf, typeInfo, zeroValue, hie, hze, hsz, hby, hs.len, hn, h63', h48', Question.forced, a1, a2, newRow, grownCap]; congr 2; apply Array.ext'; simp)
    · congr 2
      apply Array.ext'
      simp
    · have := grownCap_ge w (n + m) cap e
      simp only [List.length_append, hol, hs.length, Array.length_toList, size_zeroCells, hzs, ← Nat.add_mul]
      congr 1; omega
  obtain ⟨hol, hO⟩ := hown
  rcases hv with ⟨_, h0, _⟩ | ⟨hb, _, rfl, rfl⟩ | ⟨g, c, hb, rfl, hc⟩
  · omega
  · have ho : olds = [] := List.eq_nil_of_length_eq_zero (by simpa using hol)
    subst ho
    by_cases hm : m = 0
    · subst hm
      have hn : news = [] := List.eq_nil_of_length_eq_zero (by simpa using hs.length)
      subst hn
      refine ⟨_, _, ?_, .inr (.inl ⟨hb, rfl, rfl, rfl⟩)⟩
      have a1 := hs.cells w (Alk.refl w)
      rcases hU with ⟨e', hu2⟩ | hu2 <;> simp [Builtin.append_, run_underlying hu, run_underlying hu2, sizeOf, typeInfo, hie, hsz, hs.len, a1]
    · obtain ⟨v', w', e1, e2⟩ := grow none 0 (by omega) (by omega) (by simp) rfl (fun w' _ => by simp [Builtin.firstCells])
      exact ⟨v', w', e1, .inr (.inr e2)⟩
  · rw [hb] at hO
    obtain ⟨cur, hh, hnc, hcm, hcs, htk⟩ := hO
    have hkk := hfk
    have hcap : c = f.cap := by omega
    subst hcap
    rw [hkk] at hol hcs htk
    by_cases hroom : n + m ≤ f.cap
    · refine ⟨_, _, ?_, .inl ⟨g, cur, hb, hh, hroom, rfl, rfl⟩⟩
      have a1 := hs.cells w (Alk.refl w)
      have hm2 : (n + m) * de.size ≤ f.cap * de.size := Nat.mul_le_mul_right _ hroom
      rw [Nat.add_mul] at hm2
      have hst := run_storeCells_at P g (n * de.size) f.e news 0 cur w hh (by rw [hs.length]; omega) h1
      simp only [Nat.add_zero] at hst
      rcases hU with ⟨e', hu2⟩ | hu2 <;> simp [Builtin.append_, run_underlying hu, run_underlying hu2, sizeOf, typeInfo, hie, hsz, hs.len, hroom, a1, Addr.add_lit, hst, sp]
    · have hfc : ∀ w', Alk w w' → (Builtin.firstCells de.size n (.slice (some ⟨g, 0 * f.k, none⟩) n f.cap)).run P w' = .ok olds.toArray w' := fun w' hw' =>
        run_firstCells_some (P := P) w' de.size n ⟨g, 0 * f.k, none⟩ n f.cap olds hol (fun j u hu => by
          rw [hw'.cell, Addr.add_lit, cell_of_row hh, Nat.zero_mul, Nat.zero_add]
          exact take_get htk hu)
      have hm : 0 < m := by omega
      obtain ⟨v', w', e1, e2⟩ := grow (some ⟨g, 0 * f.k, none⟩) f.cap (by omega) hm hol rfl hfc
      exact ⟨v', w', e1, .inr (.inr e2)⟩

/-- A list that is read, as what is appended. -/
theorem Src.view (h : RelX x μ I s a w) {e : E} {u : Value} (he : ER w I μ s.L e u) {ys : List (List C)} (hv : viewE s.rt e = some ys) {k : Nat} (hk : ∀ y ∈ ys, y.length = k) :
    ∃ news, Src P w k ys.length u news ∧ F2 (CR w I) ys.flatten news := by
  obtain ⟨q, c, rfl, _, h1⟩ := view_spec h he hv
  rcases h1 with rfl | ⟨b, o, k', us, rfl, hVB, _⟩
  · refine ⟨[], ⟨by simp [Builtin.lenOf], fun w' _ => ?_, by simp⟩, .nil⟩
    cases q with
    | none => simp [Builtin.firstCells]
    | some ad => exact run_firstCells_some (P := P) w' k 0 ad 0 c [] (by simp) (by simp)
  · have hfl := F2.length hVB.hr
    rw [flatten_length hk] at hfl
    refine ⟨us, ⟨by simp [Builtin.lenOf], fun w' hw' => ?_, hfl.symm⟩, hVB.hr⟩
    exact run_firstCells_some (P := P) w' k ys.length ⟨b, o, none⟩ ys.length c us hfl.symm (fun j u hu => by rw [hw'.cell, Addr.add_lit]; exact hVB.hc j u hu)

theorem Src.str {b : ByteArray} : ∃ news, Src P w 1 b.size (.string b) news ∧ F2 (CR w I) (b.data.toList.map encB).flatten news := by
  refine ⟨b.data.toList.map fun c => .int .u8 c.toNat, ⟨by simp [Builtin.lenOf], fun w' _ => ?_, by simp⟩, ?_⟩
  · have e : b.extract 0 b.size = b := by
      simp
    simp only [Builtin.firstCells, e, Sem.run_pure]
    congr 1
    apply Array.ext'
    simp
  · generalize b.data.toList = l
    induction l with
    | nil => exact .nil
    | cons c l ih => exact .cons (.v _ rfl) ih

theorem F2.one {I : Imm} : ∀ {l : List C} {us : List Value}, F2 (CR w I) l us → ∀ u ∈ us, u.oneCell' = true
  | _, _, .nil, _, h => by simp at h
  | _, _, .cons h1 h2, u, h => by
    rcases List.mem_cons.1 h with rfl | h
    · exact h1.one
    · exact F2.one h2 u h
end

end Go.Proofs.YtcgkhljolflenaaGreatW.V
