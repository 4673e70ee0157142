/- From operations to code and functions. No condition but each theorem's own. -/
import Derived.Test.YtcgkhljolflenaaGreatVT
namespace Go.Proofs.YtcgkhljolflenaaGreatW.V
open Go

/-! ### Guards -/
def isU : E → Bool
  | .t [] => true
  | _ => false

def gdE (ops : Array Oper) (env : Nat → Option E) (o : Oper) : Option Bool := match o.guard with
  | none => some true
  | some (j, want) => match (ops[j]?).bind (·.dst) with
    | some t => match env t with
      | some e => match isB e, isU e with
        | some b, _ => some (b == want)
        | none, true => some false
        | none, false => none
      | none => none
    | none => none

theorem gdE_spec {x : Ctx} {μ : Mu} {I : Imm} {s : St} {a : Act} {w : World} (h : RelX x μ I s a w) {ops : Array Oper} {o : Oper} {b : Bool} (hg : gdE ops s.env o = some b) : Region.wanted o (yielded ops a.tmps) = b := by
  unfold gdE at hg
  unfold Region.wanted
  cases hgd : o.guard with
  | none => rw [hgd] at hg; simp at hg ⊢; exact hg
  | some p =>
    obtain ⟨j, want⟩ := p
    rw [hgd] at hg
    simp only at hg ⊢
    split at hg
    · rename_i t ht
      split at hg
      · rename_i e he
        obtain ⟨u, hu, hr⟩ := h.env t e he
        split at hg
        · rename_i t' _ hb
          cases hg
          have := isB_spec hb
          subst this
          have hu' := sc_er hr
          subst hu'
          simp [yielded, ht, hu]
        · rename_i _ hU
          cases hg
          unfold isU at hU
          split at hU
          · obtain ⟨us, e1, h2⟩ := hr
            cases h2
            simp [yielded, ht, hu, e1]
          · cases hU
        · cases hg
      · cases hg
    · cases hg

def skipEff : Eff := ⟨some (.t []), [], false, True⟩

/-- One operation of a region, be it wanted or not. -/
inductive Step (P : Program) (ops : Array Oper) (env : Nat → Option E) (rt : Nm → Option Root) (ep : Nat) (o : Oper) : Eff → Prop
  | run {f : Eff} (hg : gdE ops env o = some true) (hD : Does P env rt ep o f) : Step P ops env rt ep o f
  | skip (hg : gdE ops env o = some false) : Step P ops env rt ep o skipEff

theorem Step.sound {P : Program} {ops : Array Oper} {x : Ctx} {μ : Mu} {I : Imm} {s : St} {a : Act} {w : World} (h : RelX x μ I s a w) {o : Oper} {f : Eff} (hS : Step P ops s.env s.rt s.ep o f) (hd : ∀ d, o.dst = some d → d < x.n)
    (hu : f.new = true → ∀ d, o.dst = some d → s.used d = false) {K : Act → World → Prop} {Q : Exit → Act → World → Prop} (hK : ∀ a' w', Rel x (s.app o.dst f) a' w' → K a' w') :
    if Region.wanted o (yielded ops a.tmps) then o.wp P a w K Q ∨ (o.asks P a w ∧ LetsOut Q) else K (a.put o.dst undef) w := by
  cases hS with
  | run hg hD =>
    rw [gdE_spec h hg, if_pos rfl]
    exact .inl (Oper.wp_mono hK (hD.sound h hd hu))
  | skip hg =>
    rw [gdE_spec h hg, if_neg (by simp)]
    refine hK _ _ ⟨μ, I, ?_⟩
    cases hdst : o.dst with
    | none => simpa [St.app, skipEff, Act.put] using h
    | some d => simpa [St.app, skipEff] using h.put (e := .t []) (u := undef) (hd d hdst) ⟨[], rfl, .nil⟩

/-! ### Static checks -/
def wfDst (n : Nat) : List Nat → List Oper → Bool
  | _, [] => true
  | seen, o :: l => match o.dst with
    | some d => decide (d < n) && !seen.contains d && wfDst n (d :: seen) l
    | none => wfDst n seen l

/-! ### The next state, reckoned before one goes on -/
def nf (l : LS) : Option LS := some l
theorem nf_mk {env : List (Nat × E)} {rt : List (Nm × Root)} {ep : Nat} : nf ⟨env, rt, ep⟩ = some ⟨env, rt, ep⟩ := rfl
def force (l : LS) (K : LS → Prop) : Prop := match nf l with
  | some l' => K l'
  | none => False

/-! ### Calls -/
def FnOk (P : Program) (f : FuncId) : Prop := ∃ fn b, P.funcs[f]? = some fn ∧ fn.body = some b ∧ (fn.name == "runtime.NumGoroutine") = false

def VFun (P : Program) (f : FuncId) (args : List E) (rin : List (Option Root)) (res : E) (rout : List (Option Root)) : Prop := FnOk P f ∧ VSem P f args rin res rout

/-- No name twice. -/
def dd : List Nm → List Nm
  | [] => []
  | ρ :: l => if ρ ∈ dd l then dd l else ρ :: dd l
theorem dd_nodup : ∀ (l : List Nm), (dd l).Nodup
  | [] => by simp [dd]
  | ρ :: l => by
    simp only [dd]
    split
    · exact dd_nodup l
    · rename_i h; exact List.nodup_cons.2 ⟨h, dd_nodup l⟩

def ptrD : D → List Nm
  | .p ρ _ _ _ => [ρ]
  | _ => []
def refD : D → List Nm
  | .p ρ _ _ _ => [ρ]
  | .h ρ _ _ _ => [ρ]
  | _ => []
def ptrE : E → List Nm
  | .x (.o d) => ptrD d
  | .x (.a cs) => cs.flatMap ptrD
  | .t _ => []
def refE : E → List Nm
  | .x (.o d) => refD d
  | .x (.a cs) => cs.flatMap refD
  | .t vs => vs.flatMap fun y => match y with
    | .o d => refD d
    | .a cs => cs.flatMap refD
def refR : Root → List Nm
  | .row _ _ => []
  | .bx xs => xs.flatMap fun c => c.flatMap refD
  | .it _ _ => []
  | .mp _ => []
/-- What hangs on names, through boxes. -/
def reach (rt : Nm → Option Root) : Nat → List Nm → List Nm
  | 0, _ => []
  | n + 1, ρs => ρs.flatMap fun ρ => ρ :: (match rt ρ with
    | some r => reach rt n (refR r)
    | none => [])

/-- The roots that are passed to a call: what pointers point to, and what is said to be passed. -/
def passN (rt : Nm → Option Root) (es : List E) (md : List Nat) : List Nm :=
  dd (reach rt 6 (es.flatMap ptrE ++ md.flatMap fun i => match es[i]? with
    | some e => refE e
    | none => []))

def rootsP (rt : Nm → Option Root) (ps : List Nm) (lend : Bool) : Option (List Root) := mapO (fun ρ => match rt ρ with
  | some r => passR ps rt lend r
  | none => none) ps

/-- What is known of a function: which arguments' lists are handed over to be written; what it answers, what it leaves, what is to be shown. -/
structure FM where
  md : List Nat
  m : List E → List Root → Option (E × List (Option Root) × Prop)
/-- What is known of a function that answers one of several things: of which it is said only what holds of them. -/
structure FR where
  md : List Nat
  m : List E → List Root → Option (Prop × ((E → List (Option Root) → Prop) → Prop))
structure Hint where
  fs : List (FuncId × FM)
  kp : List (Nat × List Nat)
  an : List (Nat × List Nat)
  fz : List (Nat × List Nat) := []
  own : Bool := false
  nl : List (Nat × List (Nat × Nat)) := []
  rs : List (FuncId × FR) := []
  ow : List (Nat × Nat × Nat) := []
  nb : List (Nat × List (Nat × Nat × Nat)) := []
  cut : List Nat := []
def FM.ok (P : Program) (f : FuncId) (F : FM) : Prop := ∀ args rin res rout pre, F.m args rin = some (res, rout, pre) → pre → VFun P f args (rin.map some) res rout
def FR.ok (P : Program) (f : FuncId) (F : FR) : Prop := ∀ args rin pre W, F.m args rin = some (pre, W) → pre → ∀ K, W K → ∃ e rout, VFun P f args (rin.map some) e rout ∧ K e rout
structure Hint.ok (P : Program) (H : Hint) : Prop where
  fs : ∀ f F, lk H.fs f = some F → F.ok P f
  rs : ∀ f F, lk H.rs f = some F → F.ok P f
  mix : P.follows .mixedOrders = true

def noShO : List (Option Root) → Prop
  | [] => True
  | none :: l => noShO l
  | some r :: l => noShR r ∧ noShO l
theorem noShO_spec : ∀ {l : List (Option Root)}, noShO l → ∀ r, some r ∈ l → noShR r
  | [], _, _, h => by simp at h
  | none :: l, h, r, hr => noShO_spec (l := l) h r (by simpa using hr)
  | some r0 :: l, h, r, hr => by
    rcases List.mem_cons.1 hr with e | e
    · cases e; exact h.1
    · exact noShO_spec h.2 r e
/-- Behind a call. -/
def callE (l : LS) (dst : Option Nat) (ps : List Nm) (lend : Bool) (res : E) (rout : List (Option Root)) (K : LS → List (Nm × Option Root) → Prop) : Prop :=
  (ps.length ≤ rout.length ∧ rout.length - ps.length ≤ 100 ∧ (match decide (ps.length < rout.length), dst with | true, none => False | _, _ => True) ∧ (match lend with | true => noShE res ∧ noShO rout | false => True)) ∧
    match (callN l.ep (dst.getD 0) ps rout.length).zip (rout.map (Option.map (backR (callN l.ep (dst.getD 0) ps rout.length)))) with
    | rts => force (l.app dst (some (backE (callN l.ep (dst.getD 0) ps rout.length) res)) rts) fun l' => K l' rts
/-- What a call does, given what the function does. -/
def callK (F : FM) (l : LS) (dst : Option Nat) (ps : List Nm) (lend : Bool) (rin : List Root) (args : List E) (K : LS → List (Nm × Option Root) → Prop) : Prop := match F.m args rin with
  | some (res, rout, pre) => pre ∧ callE l dst ps lend res rout K
  | none => False
def callR (F : FR) (l : LS) (dst : Option Nat) (ps : List Nm) (lend : Bool) (rin : List Root) (args : List E) (K : LS → List (Nm × Option Root) → Prop) : Prop := match F.m args rin with
  | some (pre, W) => pre ∧ W fun res rout => callE l dst ps lend res rout K
  | none => False

/-- The values that go with a function value, as plain ones. -/
def ofVs : List Value → Option (List E)
  | [] => some []
  | v :: l => match ofV v, ofVs l with
    | some e, some es => some (e :: es)
    | _, _ => none
theorem ofVs_spec : ∀ {l : List Value} {es : List E}, ofVs l = some es → l.filterMap ofV = es ∧ es.length = l.length
  | [], es, h => by simp only [ofVs, Option.some.injEq] at h; subst h; exact ⟨rfl, rfl⟩
  | v :: l, es, h => by
    simp only [ofVs] at h
    split at h
    · rename_i e es' h1 h2
      cases h
      obtain ⟨h3, h4⟩ := ofVs_spec h2
      exact ⟨by rw [List.filterMap_cons_some h1, h3], by simp [h4]⟩
    · cases h

def vargs (md : List Nat) (fs cs : Array Value) (zs : List Operand) (rd : Nm → Option Root) (l : LS) (kk : List Nm → Bool → List Root → List E → Prop) : Prop := match mapO (evE (lk l.env)) zs, ofVs fs.toList, ofVs cs.toList with
  | some es, some e1, some e2 => match passN rd es md with
    | ps => match rootsP rd ps false, mapO (passE ps rd false) (e1 ++ es ++ e2) with
      | some rin, some args => kk ps false rin args
      | _, _ => match rootsP rd ps true, mapO (passE ps rd true) (e1 ++ es ++ e2) with
        | some rin, some args => kk ps true rin args
        | _, _ => False
  | _, _, _ => False
def vcall (H : Hint) (dst : Option Nat) (fo : Operand) (zs : List Operand) (rd : Nm → Option Root) (l : LS) (K : LS → List (Nm × Option Root) → Prop) : Prop := match evE (lk l.env) fo with
  | some (.x (.o (.c (.v (.func (.func f) fs cs))))) => match lk H.fs f with
    | some F => vargs F.md fs cs zs rd l fun ps lend rin args => callK F l dst ps lend rin args K
    | none => match lk H.rs f with
      | some F => vargs F.md fs cs zs rd l fun ps lend rin args => callR F l dst ps lend rin args K
      | none => False
  | _ => False

def vexec (P : Program) (H : Hint) (o : Oper) (rd : Nm → Option Root) (l : LS) (K : LS → List (Nm × Option Root) → Prop) : Prop := match o.op with
  | .call { callee := .value fo, args := zs, .. } => vcall H o.dst fo zs.toList rd l K
  | _ => match core P (lk l.env) rd l.ep o with
    | some f => f.ob ∧ force (l.app o.dst f.val f.rts) fun l' => K l' f.rts
    | none => False

def vop (P : Program) (H : Hint) (ops : Array Oper) (o : Oper) (l : LS) (K : LS → Prop) : Prop := match o.guard with
  | none => vexec P H o (lk l.rt) l fun l' _ => K l'
  | some (j, want) => match (ops[j]?).bind (·.dst) with
    | some t => match lk l.env t with
      | some (.x (.o (.c (.v (.bool b))))) => if b = want then vexec P H o (lk l.rt) (l.put t (sc (.bool want))) (fun l' _ => K l') else force ((l.put t (sc (.bool !want))).app o.dst (some (.t [])) []) K
      | some (.t []) => force (l.app o.dst (some (.t [])) []) K
      | _ => False
    | none => False

def vops (P : Program) (H : Hint) (ops : Array Oper) : List Oper → LS → (LS → Prop) → Prop
  | [], l, K => K l
  | o :: rest, l, K => vop P H ops o l fun l' => vops P H ops rest l' K

section
variable {P : Program} {H : Hint} {ops : Array Oper}

theorem rootsP_spec {rt : Nm → Option Root} {ps qs : List Nm} {lend : Bool} : ∀ {rin : List Root}, mapO (fun ρ => match rt ρ with | some r => passR qs rt lend r | none => none) ps = some rin → F2 (fun ρ r' => ∃ r, rt ρ = some r ∧ passR qs rt lend r = some r') ps rin := by
  intro rin h
  refine F2.mono (fun ρ r' hr => ?_) (mapO_spec h)
  split at hr
  · rename_i r hρ; exact ⟨r, hρ, hr⟩
  · cases hr

theorem vargs_step {md : List Nat} {fs cs : Array Value} {zs : List Operand} {rd : Nm → Option Root} {l : LS} {kk : List Nm → Bool → List Root → List E → Prop} (h : vargs md fs cs zs rd l kk) :
    ∃ (es e1 e2 : List E) (ps : List Nm) (lend : Bool) (rin : List Root) (args : List E), mapO (evE (lk l.env)) zs = some es ∧ ofVs fs.toList = some e1 ∧ ofVs cs.toList = some e2 ∧ ps.Nodup ∧ rootsP rd ps lend = some rin ∧ mapO (passE ps rd lend) (e1 ++ es ++ e2) = some args ∧ kk ps lend rin args := by
  unfold vargs at h
  split at h
  · rename_i es e1 e2 hes h1 h2
    simp only at h
    split at h
    · rename_i rin args h3 h4; exact ⟨es, e1, e2, _, false, rin, args, hes, h1, h2, dd_nodup _, h3, h4, h⟩
    · split at h
      · rename_i rin args h3 h4; exact ⟨es, e1, e2, _, true, rin, args, hes, h1, h2, dd_nodup _, h3, h4, h⟩
      · exact h.elim
  · exact h.elim

theorem callE_step {o : Oper} {rd : Nm → Option Root} {l : LS} {K : LS → List (Nm × Option Root) → Prop} {fo : Operand} {zs : Array Operand} {ts : Array TypeId} (ho : o.op = .call { callee := .value fo, args := zs, argTypes := ts })
    {f : FuncId} {fs cs : Array Value} (hfo : evE (lk l.env) fo = some (.x (.o (.c (.v (.func (.func f) fs cs)))))) {es e1 e2 : List E} (hes : mapO (evE (lk l.env)) zs.toList = some es) (h1 : ofVs fs.toList = some e1) (h2 : ofVs cs.toList = some e2)
    {ps : List Nm} (hnd : ps.Nodup) {lend : Bool} {rin : List Root} {args : List E} (h3 : rootsP rd ps lend = some rin) (h4 : mapO (passE ps rd lend) (e1 ++ es ++ e2) = some args) {res : E} {rout : List (Option Root)} (hV : VFun P f args (rin.map some) res rout) (h : callE l o.dst ps lend res rout K) :
    ∃ f : Eff, Does P (lk l.env) rd l.ep o f ∧ K (l.app o.dst f.val f.rts) f.rts := by
  obtain ⟨hf1, hl1⟩ := ofVs_spec h1
  obtain ⟨hf2, hl2⟩ := ofVs_spec h2
  obtain ⟨⟨a1, a2, a3, a4⟩, hK⟩ := h
  exact ⟨_, Does.call (ob := True) (fs := fs.toList) (cs := cs.toList) ho (by rw [Array.toArray_toList, Array.toArray_toList]; exact hfo) hes hV.1 hnd (rootsP_spec h3) (by rw [hf1, hf2]; exact h4) ⟨by rw [hf1, hl1], by rw [hf2, hl2]⟩ hV.2 a1 a2 (fun hlt hd => by
    rw [hd] at a3
    cases hdec : decide (ps.length < rout.length) with
    | true => rw [hdec] at a3; exact a3
    | false => exact absurd hlt (of_decide_eq_false hdec)) (fun hl => by subst hl; exact ⟨a4.1, noShO_spec a4.2⟩), hK⟩

theorem vcall_step (hH : H.ok P) {o : Oper} {rd : Nm → Option Root} {l : LS} {K : LS → List (Nm × Option Root) → Prop} {fo : Operand} {zs : Array Operand} {ts : Array TypeId} (ho : o.op = .call { callee := .value fo, args := zs, argTypes := ts }) (h : vcall H o.dst fo zs.toList rd l K) :
    ∃ f : Eff, Does P (lk l.env) rd l.ep o f ∧ K (l.app o.dst f.val f.rts) f.rts := by
  unfold vcall at h
  split at h
  · rename_i f fs cs hfo
    split at h
    · rename_i F hF
      obtain ⟨es, e1, e2, ps, lend, rin, args, hes, h1, h2, hnd, h3, h4, h⟩ := vargs_step h
      unfold callK at h
      split at h
      · rename_i res rout pre hm
        exact callE_step ho hfo hes h1 h2 hnd h3 h4 (hH.fs f F hF args rin res rout pre hm h.1) h.2
      · exact h.elim
    · split at h
      · rename_i F hF
        obtain ⟨es, e1, e2, ps, lend, rin, args, hes, h1, h2, hnd, h3, h4, h⟩ := vargs_step h
        unfold callR at h
        split at h
        · rename_i pre W hm
          obtain ⟨e, rout, hV, hK⟩ := hH.rs f F hF args rin pre W hm h.1 _ h.2
          exact callE_step ho hfo hes h1 h2 hnd h3 h4 hV hK
        · exact h.elim
      · exact h.elim
  · exact h.elim

theorem vexec_step (hH : H.ok P) {o : Oper} {rd : Nm → Option Root} {l : LS} {K : LS → List (Nm × Option Root) → Prop} (h : vexec P H o rd l K) : ∃ f : Eff, Does P (lk l.env) rd l.ep o f ∧ K (l.app o.dst f.val f.rts) f.rts := by
  unfold vexec at h
  split at h
  · rename_i ho; exact vcall_step hH ho h
  · split at h
    · rename_i f hf; exact ⟨f, core_does hf h.1, h.2⟩
    · exact h.elim

theorem put_same {l : LS} {t : Nat} {e : E} (h : lk l.env t = some e) : lk (l.put t e).env = lk l.env := by
  funext i
  simp only [LS.put, lk]
  split
  · rename_i hi; subst hi; exact h.symm
  · rfl

theorem vop_step (hH : H.ok P) {o : Oper} {l : LS} {K : LS → Prop} (h : vop P H ops o l K) : ∃ (f : Eff) (l1 : LS), Step P ops (lk l.env) (lk l.rt) l.ep o f ∧ lk l1.env = lk l.env ∧ l1.rt = l.rt ∧ l1.ep = l.ep ∧ K (l1.app o.dst f.val f.rts) := by
  unfold vop at h
  split at h
  · rename_i hg
    obtain ⟨f, hD, hK⟩ := vexec_step hH h
    exact ⟨f, l, .run (by simp [gdE, hg]) hD, rfl, rfl, rfl, hK⟩
  · rename_i j want hg
    split at h
    · rename_i t ht
      split at h
      · rename_i b hb
        have hgd : gdE ops (lk l.env) o = some (b == want) := by simp [gdE, hg, ht, hb, isB]
        by_cases hbw : b = want
        · subst hbw
          rw [if_pos rfl] at h
          obtain ⟨f, hD, hK⟩ := vexec_step hH h
          have e1 := put_same (l := l) (e := sc (.bool b)) hb
          rw [e1] at hD
          exact ⟨f, _, .run (by rw [hgd]; simp) hD, e1, rfl, rfl, hK⟩
        · rw [if_neg hbw] at h
          have hb' : b = !want := by cases b <;> cases want <;> simp_all
          subst hb'
          exact ⟨skipEff, _, .skip (by rw [hgd]; cases want <;> rfl), put_same (l := l) hb, rfl, rfl, h⟩
      · rename_i hU
        exact ⟨skipEff, l, .skip (by simp [gdE, hg, ht, hU, isB, isU]), rfl, rfl, rfl, h⟩
      · exact h.elim
    · exact h.elim

theorem app_congr {l1 l : LS} (h1 : lk l1.env = lk l.env) (h2 : l1.rt = l.rt) (h3 : l1.ep = l.ep) (used : Nat → Bool) : l1.den used = l.den used := by
  simp only [LS.den, h1, h2, h3]

/-- The operations in the order of the text: they end in one state, whatever the world. -/
theorem vops_uni (hH : H.ok P) {K : LS → Prop} : ∀ (rest : List Oper) (l : LS), vops P H ops rest l K → ∃ l', K l' ∧ ∀ (x : Ctx) (Q : Exit → Act → World → Prop) (seen : List Nat) (used : Nat → Bool) (a : Act) (w : World),
    (∀ used a w, Rel x (l'.den used) a w → Q .normal a w) → wfDst x.n seen rest = true → (∀ d, used d = true → d ∈ seen) → Rel x (l.den used) a w → wpList P ops Q rest a w
  | [], l, h => ⟨l, h, fun x Q seen used a w hQ _ _ hR => hQ used a w hR⟩
  | o :: rest, l, h => by
    obtain ⟨f, l1, hS, e1, e2, e3, hK⟩ := vop_step hH h
    obtain ⟨l', hl', ih⟩ := vops_uni hH rest _ hK
    refine ⟨l', hl', fun x Q seen used a w hQ hwf hus ⟨μ, I, hR⟩ => ?_⟩
    have hden := app_congr e1 e2 e3 used
    have hd : ∀ d, o.dst = some d → d < x.n ∧ d ∉ seen ∧ wfDst x.n (d :: seen) rest = true := fun d hd => by
      simp only [wfDst, hd, Bool.and_eq_true, decide_eq_true_eq, Bool.not_eq_true'] at hwf
      exact ⟨hwf.1.1, by simpa using hwf.1.2, hwf.2⟩
    refine Step.sound hR (s := l.den used) hS (fun d h => (hd d h).1) (fun _ d h => ?_) (fun a' w' hR' => ?_)
    · cases hu : used d with
      | false => exact hu
      | true => exact absurd (hus d hu) (hd d h).2.1
    · rw [← hden, ← den_app] at hR'
      cases hdst : o.dst with
      | none =>
        rw [hdst] at hR' ih
        refine ih x Q seen _ a' w' hQ (by simpa [wfDst, hdst] using hwf) (fun d hd' => ?_) hR'
        exact hus d (by cases hn : f.new <;> simpa [hn] using hd')
      | some d =>
        rw [hdst] at hR' ih
        refine ih x Q (d :: seen) _ a' w' hQ (hd d hdst).2.2 (fun q hq => ?_) hR'
        cases hn : f.new with
        | false => rw [hn] at hq; exact List.mem_cons_of_mem _ (hus q hq)
        | true =>
          rw [hn] at hq
          simp only [upd] at hq
          split at hq
          · rename_i e; rw [e]; exact List.mem_cons_self
          · exact List.mem_cons_of_mem _ (hus q hq)

end

end Go.Proofs.YtcgkhljolflenaaGreatW.V
