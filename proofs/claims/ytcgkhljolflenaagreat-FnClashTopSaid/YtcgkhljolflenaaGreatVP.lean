/- What an operation does rests on what it looks at. No condition but each theorem's own. -/
import Derived.Test.YtcgkhljolflenaaGreatVU
namespace Go.Proofs.YtcgkhljolflenaaGreatW.V
open Go

def Ge {κ α : Type} (g g' : κ → Option α) : Prop := ∀ q v, g q = some v → g' q = some v

section
variable {P : Program} {rt rt' : Nm → Option Root} (hrt : Ge rt rt')
include hrt

theorem ldE_ge {d : TD} {e : E} {z : A} (h : ldE d rt e = some z) : ldE d rt' e = some z := by
  unfold ldE at h ⊢
  split at h
  · split at h
    · rename_i r hr; rw [hrt _ _ hr]; exact h
    · cases h
  · exact h
  · exact h
  · cases h
theorem stE_ge {cs : List D} {e : E} {z : Nm × Root} (h : stE rt cs e = some z) : stE rt' cs e = some z := by
  unfold stE at h ⊢
  split at h
  · split at h
    · rename_i r hr; rw [hrt _ _ hr]; exact h
    · cases h
  · cases h
theorem liveP_ge {e : E} (h : liveP rt e) : liveP rt' e := by
  unfold liveP at h ⊢
  split at h
  · obtain ⟨r, hr, hm⟩ := h; exact ⟨r, hrt _ _ hr, hm⟩
  · trivial
  · exact h.elim
theorem viewE_ge {e : E} {z : List (List C)} (h : viewE rt e = some z) : viewE rt' e = some z := by
  unfold viewE at h ⊢
  split at h
  · exact h
  · exact h
  · split at h
    · rename_i k xs hr; rw [hrt _ _ hr]; exact h
    · cases h
  · cases h
theorem lenE_ge {e : E} {z : Nat} (h : lenE rt e = some z) : lenE rt' e = some z := by
  unfold lenE at h ⊢
  split at h
  · exact h
  · exact h
  · split at h
    · rename_i k hr; rw [hrt _ _ hr]; exact h
    · cases h
  · cases h
theorem ixE_ge {k : Nat} {i : Int} {e : E} {z : E × Prop} (h : ixE rt k i e = some z) : ixE rt' k i e = some z := by
  unfold ixE at h ⊢
  split at h
  · exact h
  · split at h
    · rename_i r hr; rw [hrt _ _ hr]; exact h
    · cases h
  · cases h
theorem slE_ge {k : Nat} {l r : Int} {e : E} {z : E × Prop} (h : slE rt k l r e = some z) : slE rt' k l r e = some z := by
  unfold slE at h ⊢
  split at h
  · exact h
  · exact h
  · split at h
    · rename_i r hr; rw [hrt _ _ hr]; exact h
    · cases h
  · cases h
theorem srcE_ge {str : Bool} {e : E} {z : List (List C)} (h : srcE rt str e = some z) : srcE rt' str e = some z := by
  cases str with
  | false => exact viewE_ge hrt h
  | true => exact h
theorem passD_ge {ps : List Nm} {lend : Bool} {d z : D} (h : passD ps rt lend d = some z) : passD ps rt' lend d = some z := by
  cases d with
  | h ρ i n m =>
    simp only [passD] at h ⊢
    split at h
    · exact h
    · split at h
      · split at h
        · rename_i hv; rw [viewE_ge hrt hv]; exact h
        · cases h
      · cases h
  | _ => exact h
omit hrt in
theorem mapO_ge {α β : Type} {f g : α → Option β} : ∀ {l : List α} {r : List β}, (∀ y ∈ l, ∀ z, f y = some z → g y = some z) → mapO f l = some r → mapO g l = some r
  | [], r, _, h => h
  | y :: l, r, hfg, h => by
    simp only [mapO] at h ⊢
    split at h
    · rename_i z r' h1 h2
      rw [hfg y (by simp) z h1, mapO_ge (fun y hy => hfg y (by simp [hy])) h2]
      exact h
    · cases h
theorem passA_ge {ps : List Nm} {lend : Bool} {d z : A} (h : passA ps rt lend d = some z) : passA ps rt' lend d = some z := by
  cases d with
  | o d =>
    simp only [passA] at h ⊢
    split at h
    · rename_i hv; rw [passD_ge hrt hv]; exact h
    · cases h
  | a cs =>
    simp only [passA] at h ⊢
    split at h
    · rename_i hv; rw [mapO_ge (fun _ _ _ h => passD_ge hrt h) hv]; exact h
    · cases h
theorem passE_ge {ps : List Nm} {lend : Bool} {d z : E} (h : passE ps rt lend d = some z) : passE ps rt' lend d = some z := by
  cases d with
  | x d =>
    simp only [passE] at h ⊢
    split at h
    · rename_i hv; rw [passA_ge hrt hv]; exact h
    · cases h
  | t vs => exact h
theorem passR_ge {ps : List Nm} {lend : Bool} {d z : Root} (h : passR ps rt lend d = some z) : passR ps rt' lend d = some z := by
  cases d with
  | row k xs => exact h
  | bx xs =>
    simp only [passR] at h ⊢
    split at h
    · rename_i hv; rw [mapO_ge (fun _ _ _ h => mapO_ge (fun _ _ _ h => passD_ge hrt h) h) hv]; exact h
    · cases h
  | it b p => exact h
  | mp es => exact h
omit hrt in
theorem upd_ge {g g' : Nm → Option Root} (h : Ge g g') (ρ : Nm) : Ge (upd g ρ none) (upd g' ρ none) := fun q v hq => by
  simp only [upd] at hq ⊢
  split at hq
  · cases hq
  · rename_i hne; rw [if_neg hne]; exact h _ _ hq
omit hrt in
theorem shutD_ge : ∀ {l : List D} {g g' : Nm → Option Root} {z : List C × List Nm}, Ge g g' → shutD g l = some z → shutD g' l = some z
  | [], _, _, _, _, h => h
  | .c y :: l, g, g', z, hg, h => by
    simp only [shutD] at h ⊢
    split at h
    · rename_i h1; rw [shutD_ge hg h1]; exact h
    · cases h
  | .h ρ i n m :: l, g, g', z, hg, h => by
    simp only [shutD] at h ⊢
    split at h
    · rename_i h1 h2; rw [viewE_ge hg h1, shutD_ge (upd_ge hg ρ) h2]; exact h
    · cases h
  | .p .. :: l, _, _, _, _, h => by simp [shutD] at h
  | .e .. :: l, _, _, _, _, h => by simp [shutD] at h
omit hrt in
theorem delR_ge : ∀ (ρs : List Nm) {g g' : Nm → Option Root}, Ge g g' → Ge (delR g ρs) (delR g' ρs)
  | [], _, _, h => h
  | ρ :: l, _, _, h => delR_ge l (upd_ge h ρ)
omit hrt in
theorem shutR_ge : ∀ {l : List (List D)} {g g' : Nm → Option Root} {z : List (List C) × List Nm}, Ge g g' → shutR g l = some z → shutR g' l = some z
  | [], _, _, _, _, h => h
  | r :: l, g, g', z, hg, h => by
    simp only [shutR] at h ⊢
    split at h
    · rename_i h1
      rw [shutD_ge hg h1]
      simp only at h ⊢
      split at h
      · rename_i h2; rw [shutR_ge (delR_ge _ hg) h2]; exact h
      · cases h
    · cases h
end

section
variable {P : Program} {env env' : Nat → Option E}

theorem bndE_ge {dflt i : Int} {z : Option Operand} (h : ∀ y, z = some y → ∀ e, evE env y = some e → evE env' y = some e) (hb : bndE env dflt z = some i) : bndE env' dflt z = some i := by
  cases z with
  | none => exact hb
  | some y =>
    simp only [bndE] at hb ⊢
    split at hb
    · rename_i he; rw [h y rfl _ he]; exact hb
    · cases hb
theorem evParts_ge : ∀ {l : List (Nat × Operand)} {r : List (Nat × A)}, (∀ p ∈ l, ∀ e, evE env p.2 = some e → evE env' p.2 = some e) → evParts env l = some r → evParts env' l = some r
  | [], _, _, h => h
  | (i, z) :: l, r, hl, h => by
    simp only [evParts] at h ⊢
    split at h
    · rename_i e he
      rw [hl (i, z) (by simp) e he]
      simp only
      split at h
      · rename_i h1 h2
        rw [h1, evParts_ge (fun p hp => hl p (by simp [hp])) h2]
        exact h
      · cases h
    · cases h
theorem toVs_ge : ∀ {l : List Operand} {r : List Value}, (∀ p ∈ l, ∀ e, evE env p = some e → evE env' p = some e) → toVs env l = some r → toVs env' l = some r
  | [], _, _, h => h
  | z :: l, r, hl, h => by
    simp only [toVs] at h ⊢
    split at h
    · rename_i e he
      rw [hl z (by simp) e he]
      simp only
      split at h
      · rename_i h1 h2
        rw [h1, toVs_ge (fun p hp => hl p (by simp [hp])) h2]
        exact h
      · cases h
    · cases h

theorem Does.local {rt rt' : Nm → Option Root} {ep : Nat} {o : Oper} {f : Eff} (hrt : Ge rt rt') (hev : ∀ y ∈ o.op.operands.toList, ∀ e, evE env y = some e → evE env' y = some e) (h : Does P env rt ep o f) : Does P env' rt' ep o f := by
  cases h with
  | move ho he => exact .move ho (hev _ (by rcases ho with ho | ho <;> simp [ho, Op.operands]) _ he)
  | pick ho hc hb he =>
    refine .pick ho (hev _ (by simp [ho, Op.operands]) _ hc) hb ?_
    rename_i t _ _ _
    cases t
    · exact hev _ (by simp [ho, Op.operands]) _ he
    · exact hev _ (by simp [ho, Op.operands]) _ he
  | alloc ho hdst ht hz => exact .alloc ho hdst ht hz
  | box ho hdst he hy => exact .box ho hdst (hev _ (by simp [ho, Op.operands]) _ he) hy
  | load ho he ht hz => exact .load ho (hev _ (by simp [ho, Op.operands]) _ he) ht (ldE_ge hrt hz)
  | store ho hdst hp hy hya ht hsz hs => exact .store ho hdst (hev _ (by simp [ho, Op.operands]) _ hp) (hev _ (by simp [ho, Op.operands]) _ hy) hya ht hsz (stE_ge hrt hs)
  | nilCheck ho he hl => exact .nilCheck ho (hev _ (by simp [ho, Op.operands]) _ he) (liveP_ge hrt hl)
  | fieldAddr ho he hl ht hk hf hft hz ha => exact .fieldAddr ho (hev _ (by simp [ho, Op.operands]) _ he) (liveP_ge hrt hl) ht hk hf hft hz ha
  | field ho he ht hk hf hft hz => exact .field ho (hev _ (by simp [ho, Op.operands]) _ he) ht hk hf hft hz
  | extract ho he hz => exact .extract ho (hev _ (by simp [ho, Op.operands]) _ he) hz
  | bin ho hy hz hb hob => exact .bin ho (hev _ (by simp [ho, Op.operands]) _ hy) (hev _ (by simp [ho, Op.operands]) _ hz) hb hob
  | binB ho hop ht hk hy hz => exact .binB ho hop ht hk (hev _ (by simp [ho, Op.operands]) _ hy) (hev _ (by simp [ho, Op.operands]) _ hz)
  | eqSt ho hop hy hz hu' hv ht ha hok hn hr => exact .eqSt ho hop (hev _ (by simp [ho, Op.operands]) _ hy) (hev _ (by simp [ho, Op.operands]) _ hz) hu' hv ht ha hok hn hr
  | un ho hy hb => exact .un ho (hev _ (by simp [ho, Op.operands]) _ hy) hb
  | len ho hts ht hk he hn => exact .len ho hts ht hk (hev _ (by simp [ho, Op.operands, Call.operands]) _ he) (lenE_ge hrt hn)
  | lenStr ho hts ht hk he => exact .lenStr ho hts ht hk (hev _ (by simp [ho, Op.operands, Call.operands]) _ he)
  | indexAddr ho ht hk hte he hi hii hx hob => exact .indexAddr ho ht hk hte (hev _ (by simp [ho, Op.operands]) _ he) (hev _ (by simp [ho, Op.operands]) _ hi) hii (ixE_ge hrt hx) hob
  | indexAddrArr ho ht hk hte he hl hi hii hx h0 h1 => exact .indexAddrArr ho ht hk hte (hev _ (by simp [ho, Op.operands]) _ he) (liveP_ge hrt hl) (hev _ (by simp [ho, Op.operands]) _ hi) hii hx h0 h1
  | indexStr ho ht hk he hi hii h0 hc => exact .indexStr ho ht hk (hev _ (by simp [ho, Op.operands]) _ he) (hev _ (by simp [ho, Op.operands]) _ hi) hii h0 hc
  | indexArr ho ht hk hte he hi hii h0 h1 hv => exact .indexArr ho ht hk hte (hev _ (by simp [ho, Op.operands]) _ he) (hev _ (by simp [ho, Op.operands]) _ hi) hii h0 h1 hv
  | sliceStr ho ht hk he hl hr h0 h1 h2 =>
    exact .sliceStr ho ht hk (hev _ (by simp [ho, Op.operands]) _ he) (bndE_ge (fun y hy => hev y (by simp [ho, Op.operands, hy])) hl) (bndE_ge (fun y hy => hev y (by simp [ho, Op.operands, hy])) hr) h0 h1 h2
  | slice ho ht hk hte he hn hl hr hs hob =>
    exact .slice ho ht hk hte (hev _ (by simp [ho, Op.operands]) _ he) (lenE_ge hrt hn) (bndE_ge (fun y hy => hev y (by simp [ho, Op.operands, hy])) hl) (bndE_ge (fun y hy => hev y (by simp [ho, Op.operands, hy])) hr) (slE_ge hrt hs) hob
  | convInt ho h1 h2 hk he => exact .convInt ho h1 h2 hk (hev _ (by simp [ho, Op.operands]) _ he)
  | convStr ho h1 h2 hk he => exact .convStr ho h1 h2 hk (hev _ (by simp [ho, Op.operands]) _ he)
  | convBytes ho h1 hk1 h3 hk3 h2 hk he hv hb => exact .convBytes ho h1 hk1 h3 hk3 h2 hk (hev _ (by simp [ho, Op.operands]) _ he) (viewE_ge hrt hv) hb
  | convToBytes ho h1 h2 hk2 h3 hk3 he => exact .convToBytes ho h1 h2 hk2 h3 hk3 (hev _ (by simp [ho, Op.operands]) _ he)
  | buildSt ho ht hk hz hpl hr hf => exact .buildSt ho ht hk hz hpl (evParts_ge (fun p hp => hev p.2 (by simp only [ho, Op.operands, List.mem_map]; exact ⟨p, hp, rfl⟩)) hr) hf
  | buildArr ho ht hk hte hz hr hf => exact .buildArr ho ht hk hte hz (evParts_ge (fun p hp => hev p.2 (by simp only [ho, Op.operands, List.mem_map]; exact ⟨p, hp, rfl⟩)) hr) hf
  | buildSlice ho hdst ht hk hte hzl hz hn hn2 hr hrows hs =>
    exact .buildSlice ho hdst ht hk hte hzl hz hn hn2 (evParts_ge (fun p hp => hev p.2 (by simp only [ho, Op.operands, List.mem_map]; exact ⟨p, hp, rfl⟩)) hr) hrows (shutR_ge hrt hs)
  | buildSliceP ho hdst ht hk hte hzl hz hn hn2 hr hrows => exact .buildSliceP ho hdst ht hk hte hzl hz hn hn2 (evParts_ge (fun p hp => hev p.2 (by simp only [ho, Op.operands, List.mem_map]; exact ⟨p, hp, rfl⟩)) hr) hrows
  | makeSlice ho hdst ht hk hte hzl hz hy hz' hl hc h0 hlc hb h63 => exact .makeSlice ho hdst ht hk hte hzl hz (hev _ (by simp [ho, Op.operands]) _ hy) (hev _ (by simp [ho, Op.operands]) _ hz') hl hc h0 hlc hb h63
  | append ho ht hk ht' hk' hte hzl he hr hn hkk hz hv hyl hk1 hbytes h63 =>
    exact .append ho ht hk ht' hk' hte hzl (hev _ (by simp [ho, Op.operands, Call.operands]) _ he) (hrt _ _ hr) hn hkk (hev _ (by simp [ho, Op.operands, Call.operands]) _ hz) (srcE_ge hrt hv) hyl hk1 hbytes h63
  | appendNil ho hdst ht hk ht' hk' hte hzl he hz hv hyl hk1 hbytes h63 =>
    exact .appendNil ho hdst ht hk ht' hk' hte hzl (hev _ (by simp [ho, Op.operands, Call.operands]) _ he) (hev _ (by simp [ho, Op.operands, Call.operands]) _ hz) (srcE_ge hrt hv) hyl hk1 hbytes h63
  | copy ho ht hk hte he hr hn hkk hz hv hyl hyn => exact .copy ho ht hk hte (hev _ (by simp [ho, Op.operands, Call.operands]) _ he) (hrt _ _ hr) hn hkk (hev _ (by simp [ho, Op.operands, Call.operands]) _ hz) (viewE_ge hrt hv) hyl hyn
  | min ho hy hz => exact .min ho (hev _ (by simp [ho, Op.operands, Call.operands]) _ hy) (hev _ (by simp [ho, Op.operands, Call.operands]) _ hz)
  | max ho hy hz => exact .max ho (hev _ (by simp [ho, Op.operands, Call.operands]) _ hy) (hev _ (by simp [ho, Op.operands, Call.operands]) _ hz)
  | makeFunc ho hf hc => exact .makeFunc ho (toVs_ge (fun y hy => hev y (by simp [ho, Op.operands, Array.mem_def.1, hy] <;> simp_all)) hf) (toVs_ge (fun y hy => hev y (by simp_all [Op.operands])) hc)
  | range ho hdst ht hk he => exact .range ho hdst ht hk (hev _ (by simp [ho, Op.operands]) _ he)
  | next ho he hr hf => exact .next ho (hev _ (by simp [ho, Op.operands]) _ he) (hrt _ _ hr) hf
  | makeMap ho hdst => exact .makeMap ho hdst
  | lookup ho ht hk hkt he hr hz hkv hks hv hm hy => exact .lookup ho ht hk hkt (hev _ (by simp [ho, Op.operands]) _ he) (hrt _ _ hr) (hev _ (by simp [ho, Op.operands]) _ hz) hkv hks hv hm hy
  | mapUpdate ho hdst ht hk hkt he hr hz hkv hks hv hm hu huv => exact .mapUpdate ho hdst ht hk hkt (hev _ (by simp [ho, Op.operands]) _ he) (hrt _ _ hr) (hev _ (by simp [ho, Op.operands]) _ hz) hkv hks hv hm (hev _ (by simp [ho, Op.operands]) _ hu) huv
  | call ho hfo hes hname hnd hrin hargs hfl hsem hle hnew hu hkeep =>
    exact .call ho (hev _ (by simp [ho, Op.operands, Call.operands]) _ hfo) (mapO_ge (fun y hy => hev y (by simp_all [Op.operands, Call.operands])) hes) hname hnd
      (F2.mono (fun ρ r' ⟨r, h1, h2⟩ => ⟨r, hrt _ _ h1, passR_ge hrt h2⟩) hrin) (mapO_ge (fun _ _ _ h => passE_ge hrt h) hargs) hfl hsem hle hnew hu hkeep

theorem gdE_local {ops : Array Oper} {o : Oper} {b : Bool} (hev : ∀ t ∈ o.looksAt ops, ∀ e, env t = some e → env' t = some e) (h : gdE ops env o = some b) : gdE ops env' o = some b := by
  unfold gdE at h ⊢
  cases hg : o.guard with
  | none => rw [hg] at h; exact h
  | some p =>
    obtain ⟨j, want⟩ := p
    rw [hg] at h
    simp only at h ⊢
    split at h
    · rename_i t ht
      have hm : t ∈ o.looksAt ops := by
        simp only [Oper.looksAt, hg, List.mem_append]
        right; rw [ht]; simp
      split at h
      · rename_i e he
        rw [hev t hm e he]
        exact h
      · cases h
    · cases h

theorem Step.local {ops : Array Oper} {rt rt' : Nm → Option Root} {ep : Nat} {o : Oper} {f : Eff} (hrt : Ge rt rt') (hev : ∀ t ∈ o.looksAt ops, ∀ e, env t = some e → env' t = some e) (h : Step P ops env rt ep o f) : Step P ops env' rt' ep o f := by
  cases h with
  | run hg hD =>
    refine .run (gdE_local hev hg) (hD.local hrt fun y hy e he => ?_)
    cases y with
    | tmp t =>
      refine hev t ?_ e he
      simp only [Oper.looksAt, List.mem_append, List.mem_filterMap]
      exact .inl ⟨_, hy, rfl⟩
    | _ => exact he
  | skip hg => exact .skip (gdE_local hev hg)
end

end Go.Proofs.YtcgkhljolflenaaGreatW.V
