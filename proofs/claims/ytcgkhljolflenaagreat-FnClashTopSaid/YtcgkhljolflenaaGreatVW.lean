/- Operations whose order is drawn. No condition but each theorem's own. -/
import Derived.Test.YtcgkhljolflenaaGreatVP
namespace Go.Proofs.YtcgkhljolflenaaGreatW.V
open Go

/-! ### Writes in any order -/
section gen
variable {X κ α : Type} {wr : X → (κ → α) → κ → α} {W : X → κ → Prop}

structure Locally (wr : X → (κ → α) → κ → α) (W : X → κ → Prop) : Prop where
  out : ∀ x q g, ¬ W x q → wr x g q = g q
  inn : ∀ x q g g', W x q → wr x g q = wr x g' q

def runS (wr : X → (κ → α) → κ → α) (D : Nat → Bool) : Nat → List X → (κ → α) → (κ → α)
  | _, [], g => g
  | k, x :: l, g => runS wr D (k + 1) l (if D k = true then wr x g else g)

theorem runS_congr (hl : Locally wr W) {q : κ} {D D' : Nat → Bool} : ∀ {l : List X} {k : Nat} {g g' : κ → α}, (∀ j x, l[j]? = some x → W x q → D (k + j) = D' (k + j)) → g q = g' q → runS wr D k l g q = runS wr D' k l g' q
  | [], _, _, _, _, h => h
  | x :: l, k, g, g', h, hg => by
    refine runS_congr hl (l := l) (k := k + 1) (fun j y hy hw => ?_) ?_
    · have := h (j + 1) y (by simpa using hy) hw
      rwa [show k + (j + 1) = k + 1 + j by omega] at this
    · by_cases hw : W x q
      · have e := h 0 x (by simp) hw
        simp only [Nat.add_zero] at e
        rw [e]
        cases D' k
        · simpa using hg
        · simpa using hl.inn x q g g' hw
      · have a1 := hl.out x q g hw
        have a2 := hl.out x q g' hw
        cases D k <;> cases D' k <;> simp [a1, a2, hg]

theorem runS_none (hl : Locally wr W) {q : κ} {D : Nat → Bool} : ∀ {l : List X} {k : Nat} {g : κ → α}, (∀ j x, l[j]? = some x → W x q → D (k + j) = false) → runS wr D k l g q = g q
  | [], _, _, _ => rfl
  | x :: l, k, g, h => by
    simp only [runS]
    rw [runS_none hl (l := l) (k := k + 1) (fun j y hy hw => by
      have := h (j + 1) y (by simpa using hy) hw
      rwa [show k + (j + 1) = k + 1 + j by omega] at this)]
    by_cases hw : W x q
    · have e := h 0 x (by simp) hw
      simp only [Nat.add_zero] at e
      simp [e]
    · have a1 := hl.out x q g hw
      cases D k <;> simp [a1]

theorem runS_add (hl : Locally wr W) {q : κ} {D D' : Nat → Bool} {l : List X} {g : κ → α} {i : Nat} {x : X} (hi : l[i]? = some x) (hD : D' i = true) (hag : ∀ j, j ≠ i → D' j = D j)
    (hno : ∀ j y, i < j → l[j]? = some y → W x q → W y q → D j = false) : runS wr D' 0 l g q = wr x (runS wr D 0 l g) q := by
  by_cases hw : W x q
  · have key : ∀ (l : List X) (k i : Nat) (g : κ → α), l[i]? = some x → D' (k + i) = true → (∀ j y, i < j → l[j]? = some y → W y q → D' (k + j) = false) → ∀ g', runS wr D' k l g q = wr x g' q := by
      intro l
      induction l with
      | nil => intro k i g h; simp at h
      | cons y l ih =>
        intro k i g h hD hno2 g'
        cases i with
        | zero =>
          simp only [List.getElem?_cons_zero, Option.some.injEq] at h
          subst h
          simp only [Nat.add_zero] at hD
          simp only [runS, hD, if_true]
          rw [runS_none hl (fun j z hz hwz => by
            have := hno2 (j + 1) z (by omega) (by simpa using hz) hwz
            rwa [show k + (j + 1) = k + 1 + j by omega] at this)]
          exact hl.inn _ _ _ _ hw
        | succ i =>
          simp only [runS]
          exact ih (k + 1) i _ (by simpa using h) (by rwa [show k + 1 + i = k + (i + 1) by omega]) (fun j z hij hz hwz => by
            have := hno2 (j + 1) z (by omega) (by simpa using hz) hwz
            rwa [show k + (j + 1) = k + 1 + j by omega] at this) g'
    exact key l 0 i g hi (by simpa using hD) (fun j y hij hy hwy => by
      rw [Nat.zero_add, hag j (by omega)]
      exact hno j y hij hy hw hwy) _
  · rw [hl.out _ _ _ hw]
    refine runS_congr hl (fun j y hy hwy => ?_) rfl
    rw [Nat.zero_add]
    refine hag j fun e => ?_
    subst e
    rw [hi] at hy; cases hy
    exact hw hwy

theorem runS_off {D : Nat → Bool} : ∀ {l : List X} {k : Nat} {g : κ → α}, (∀ j, k ≤ j → D j = false) → runS wr D k l g = g
  | [], _, _, _ => rfl
  | x :: l, k, g, h => by
    simp only [runS, h k (Nat.le_refl k), Bool.false_eq_true, if_false]
    exact runS_off fun j hj => h j (by omega)
theorem runS_ext {D D' : Nat → Bool} : ∀ {l : List X} {k : Nat} {g : κ → α}, (∀ j, k ≤ j → j < k + l.length → D j = D' j) → runS wr D k l g = runS wr D' k l g
  | [], _, _, _ => rfl
  | x :: l, k, g, h => by
    simp only [runS, h k (Nat.le_refl k) (by simp)]
    exact runS_ext fun j hj hk => h j (by omega) (by simp; omega)
end gen

/-! ### A run in the order of the text, told -/
structure TE where
  o : Oper
  f : Eff
  R : List Nm

def wrE (x : TE) (env : Nat → Option E) : Nat → Option E := match x.o.dst with
  | some d => upd env d x.f.val
  | none => env
def wrR (x : TE) (rt : Nm → Option Root) : Nm → Option Root := x.f.rts.foldl (fun g p => upd g p.1 p.2) rt
def wrU (x : TE) (used : Nat → Bool) : Nat → Bool := match x.f.new, x.o.dst with
  | true, some d => upd used d true
  | _, _ => used
def WE (x : TE) (t : Nat) : Prop := x.o.dst = some t
def WR (x : TE) (ρ : Nm) : Prop := ρ ∈ x.f.rts.map (·.1)
def WU (x : TE) (d : Nat) : Prop := x.f.new = true ∧ x.o.dst = some d

theorem locE : Locally wrE WE where
  out x q g h := by
    unfold wrE
    cases hd : x.o.dst with
    | none => rfl
    | some d => exact upd_ne _ _ fun e => h (by subst e; exact hd)
  inn x q g g' h := by
    unfold wrE
    rw [show x.o.dst = some q from h]
    simp [upd]
theorem locU : Locally wrU WU where
  out x q g h := by
    unfold wrU
    cases h1 : x.f.new with
    | false => rfl
    | true =>
      cases h2 : x.o.dst with
      | none => rfl
      | some d => exact upd_ne _ _ fun e => h (by subst e; exact ⟨h1, h2⟩)
  inn x q g g' h := by
    unfold wrU
    rw [h.1, h.2]
    simp [upd]
theorem foldl_out {ρ : Nm} : ∀ {l : List (Nm × Option Root)} {g : Nm → Option Root}, ρ ∉ l.map (·.1) → l.foldl (fun g p => upd g p.1 p.2) g ρ = g ρ
  | [], _, _ => rfl
  | (σ, r) :: l, g, h => by
    simp only [List.map_cons, List.mem_cons, not_or] at h
    simp only [List.foldl_cons]
    rw [foldl_out h.2]
    exact upd_ne _ _ h.1
theorem foldl_inn {ρ : Nm} : ∀ {l : List (Nm × Option Root)} {g g' : Nm → Option Root}, (ρ ∈ l.map (·.1) ∨ g ρ = g' ρ) → l.foldl (fun g p => upd g p.1 p.2) g ρ = l.foldl (fun g p => upd g p.1 p.2) g' ρ
  | [], g, g', h => by simpa using h
  | (σ, r) :: l, g, g', h => by
    simp only [List.foldl_cons]
    refine foldl_inn ?_
    by_cases e : ρ = σ
    · right; simp [upd, e]
    · rcases h with h | h
      · simp only [List.map_cons, List.mem_cons] at h
        exact .inl (h.resolve_left e)
      · right; simp [upd, e, h]
theorem locR : Locally wrR WR where
  out _ _ _ h := foldl_out h
  inn _ _ _ _ h := foldl_inn (.inl h)

inductive Tr (P : Program) (ops : Array Oper) (ep : Nat) : (Nat → Option E) → (Nm → Option Root) → List TE → Prop
  | nil {env : Nat → Option E} {rt : Nm → Option Root} : Tr P ops ep env rt []
  | cons {env : Nat → Option E} {rt rd : Nm → Option Root} {x : TE} {l : List TE} (hrd : ∀ ρ r, rd ρ = some r → ρ ∈ x.R ∧ rt ρ = some r) (hS : Step P ops env rd ep x.o x.f) (h : Tr P ops ep (wrE x env) (wrR x rt) l) : Tr P ops ep env rt (x :: l)

theorem Tr.get {P : Program} {ops : Array Oper} {ep : Nat} : ∀ {l : List TE} {env : Nat → Option E} {rt : Nm → Option Root}, Tr P ops ep env rt l → ∀ (i k : Nat) (x : TE), l[i]? = some x →
    ∃ rd : Nm → Option Root, (∀ ρ r, rd ρ = some r → ρ ∈ x.R ∧ runS wrR (fun j => decide (j < k + i)) k l rt ρ = some r) ∧ Step P ops (runS wrE (fun j => decide (j < k + i)) k l env) rd ep x.o x.f
  | [], _, _, _, i, k, x, h => by simp at h
  | y :: l, env, rt, .cons hrd hS hT, 0, k, x, h => by
    simp only [List.getElem?_cons_zero, Option.some.injEq] at h
    subst h
    have e1 : runS wrR (fun j => decide (j < k + 0)) k (y :: l) rt = rt := runS_off fun j hj => by simp; omega
    have e2 : runS wrE (fun j => decide (j < k + 0)) k (y :: l) env = env := runS_off fun j hj => by simp; omega
    rw [e1, e2]
    exact ⟨_, hrd, hS⟩
  | y :: l, env, rt, .cons hrd hS hT, i + 1, k, x, h => by
    have := hT.get i (k + 1) x (by simpa using h)
    simp only [runS, show k < k + (i + 1) by omega, decide_true, if_true]
    rwa [show k + 1 + i = k + (i + 1) by omega] at this

def stS (D : Nat → Bool) (l : List TE) (s : St) : St := ⟨runS wrE D 0 l s.env, runS wrR D 0 l s.rt, s.ep, runS wrU D 0 l s.used⟩

/-- What the order leaves free does not meet. -/
structure Indep (ops : Array Oper) (ord : Nat → Nat → Prop) (l : List TE) : Prop where
  apart : ∀ (i j : Nat) (x y : TE), i < j → l[i]? = some x → l[j]? = some y → ¬ ord i j → x.o.apart ops y.o = true
  names : ∀ (i j : Nat) (x y : TE), i < j → l[i]? = some x → l[j]? = some y → ¬ ord i j → (∀ ρ, WR x ρ → ρ ∉ y.R ∧ ¬ WR y ρ) ∧ (∀ ρ, WR y ρ → ρ ∉ x.R)
  dist : ∀ (i j : Nat) (x y : TE) (d : Nat), l[i]? = some x → l[j]? = some y → x.o.dst = some d → y.o.dst = some d → i = j

section
variable {P : Program} {ops : Array Oper} {ord : Nat → Nat → Prop} {l : List TE} {s : St}

theorem step_at (hT : Tr P ops s.ep s.env s.rt l) (hI : Indep ops ord l) {D : Nat → Bool} (hcl : ∀ i j, i < j → ord i j → D j = true → D i = true) {i : Nat} {x : TE} (hx : l[i]? = some x) (hi : D i = false) (hpre : ∀ j, j < i → ord j i → D j = true) :
    Step P ops (stS D l s).env (stS D l s).rt s.ep x.o x.f := by
  obtain ⟨rd, hrd, hS⟩ := hT.get i 0 x hx
  have hcmp : ∀ (W : TE → Prop) (j : Nat) (y : TE), l[j]? = some y → W y → (∀ (hlt : j < i), ¬ ord j i → False) → (∀ (hlt : i < j), ¬ ord i j → False) → decide (j < 0 + i) = D j := fun W j y hy hw h1 h2 => by
    rw [Nat.zero_add]
    by_cases hlt : j < i
    · by_cases ho : ord j i
      · simp [hlt, hpre j hlt ho]
      · exact (h1 hlt ho).elim
    · by_cases he : j = i
      · subst he; simp [hi]
      · have hgt : i < j := by omega
        by_cases ho : ord i j
        · have : D j = false := by
            cases hD : D j with
            | false => rfl
            | true => rw [hcl i j hgt ho hD] at hi; cases hi
          simp [hlt, this]
        · exact (h2 hgt ho).elim
  refine hS.local (fun ρ r hr => ?_) (fun t ht e he => ?_)
  · obtain ⟨hR, h0⟩ := hrd ρ r hr
    have : runS wrR (fun j => decide (j < 0 + i)) 0 l s.rt ρ = runS wrR D 0 l s.rt ρ := by
      refine runS_congr locR (fun j y hy hw => ?_) rfl
      rw [Nat.zero_add]
      exact hcmp (fun y => WR y ρ) j y hy hw (fun hlt ho => ((hI.names j i y x hlt hy hx ho).1 ρ hw).1 hR) (fun hlt ho => (hI.names i j x y hlt hx hy ho).2 ρ hw hR)
    show runS wrR D 0 l s.rt ρ = some r
    rw [← this]; exact h0
  · have : runS wrE (fun j => decide (j < 0 + i)) 0 l s.env t = runS wrE D 0 l s.env t := by
      refine runS_congr locE (fun j y hy hw => ?_) rfl
      rw [Nat.zero_add]
      exact hcmp (fun y => WE y t) j y hy hw (fun hlt ho => (Oper.apart_spec (hI.apart j i y x hlt hy hx ho)).1 t hw ht) (fun hlt ho => (Oper.apart_spec (hI.apart i j x y hlt hx hy ho)).2.2 t hw ht)
    show runS wrE D 0 l s.env t = some e
    rw [← this]; exact he

theorem stS_add (hI : Indep ops ord l) {D D' : Nat → Bool} (hcl : ∀ i j, i < j → ord i j → D j = true → D i = true) {i : Nat} {x : TE} (hx : l[i]? = some x) (hi : D i = false) (hD : D' i = true) (hag : ∀ j, j ≠ i → D' j = D j) :
    stS D' l s = (stS D l s).app x.o.dst x.f := by
  have e1 : runS wrE D' 0 l s.env = wrE x (runS wrE D 0 l s.env) := funext fun q => runS_add locE hx hD hag fun j y hij hy h1 h2 => by
    have := hI.dist i j x y q hx hy h1 h2; omega
  have e2 : runS wrR D' 0 l s.rt = wrR x (runS wrR D 0 l s.rt) := funext fun q => runS_add locR hx hD hag fun j y hij hy h1 h2 => by
    cases hDj : D j with
    | false => rfl
    | true =>
      by_cases ho : ord i j
      · rw [hcl i j hij ho hDj] at hi; cases hi
      · exact (((hI.names i j x y hij hx hy ho).1 q h1).2 h2).elim
  have e3 : runS wrU D' 0 l s.used = wrU x (runS wrU D 0 l s.used) := funext fun q => runS_add locU hx hD hag fun j y hij hy h1 h2 => by
    have := hI.dist i j x y q hx hy h1.2 h2.2; omega
  unfold stS
  rw [e1, e2, e3]
  rfl

/-- Whatever order is drawn, it ends where the text's ends. -/
theorem draw_sound {x : Ctx} {Q : Exit → Act → World → Prop} (hops : l.map (·.o) = ops.toList) (hT : Tr P ops s.ep s.env s.rt l) (hI : Indep ops ord l)
    (hedge : ∀ (j : Nat) (o : Oper) (e : Edge), ops[j]? = some o → e ∈ o.after.toList → Region.binds .any e = true → e.on < j)
    (hord : ∀ i j, ord i j → ∃ (o : Oper) (e : Edge), ops[j]? = some o ∧ e ∈ o.after.toList ∧ Region.binds .any e = true ∧ (i = e.on ∨ ord i e.on))
    (hu : s.used = fun _ => false) (hn : ∀ (j : Nat) (y : TE) (d : Nat), l[j]? = some y → y.o.dst = some d → d < x.n) (hQ : ∀ a w, Rel x (stS (fun _ => true) l s) a w → Q .normal a w) :
    ∀ (fuel : Nat) (listed : Array Bool) (a : Act) (w : World), listed.size = ops.size → listed.toList.countP (· == false) = fuel → (∀ (j : Nat) (o : Oper) (e : Edge), ops[j]? = some o → listed.getD j false = true → e ∈ o.after.toList → Region.binds .any e = true → listed.getD e.on false = true) →
      Rel x (stS (fun j => listed.getD j false) l s) a w → wpAny P .any ops Q fuel listed a w := by
  have hlen : l.length = ops.size := by rw [← List.length_map (f := (·.o)) (as := l), hops]; simp
  have hget : ∀ (i : Nat) (y : TE), l[i]? = some y → ops[i]? = some y.o := fun i y hy => by
    have : (l.map (·.o))[i]? = some y.o := by simp [hy]
    rw [hops] at this
    simpa using this
  -- all have come up once none is ready
  have hall : ∀ (listed : Array Bool), listed.size = ops.size → Region.ready .any ops listed = [] → ∀ i, i < ops.size → listed.getD i false = true := by
    intro listed hsz hr i
    induction i using Nat.strongRecOn with
    | _ i ih =>
      intro hi
      cases hL : listed.getD i false with
      | true => rfl
      | false =>
        exfalso
        have : i ∈ Region.ready .any ops listed := by
          unfold Region.ready
          rw [List.mem_filter]
          refine ⟨List.mem_range.2 hi, ?_⟩
          have h1 : listed.getD i true = false := by
            have hi' : i < listed.size := by omega
            simp only [Array.getD, hi', dif_pos] at hL ⊢
            exact hL
          simp only [h1, Bool.not_false, Bool.true_and, Array.getElem?_eq_getElem hi, Option.map_some, Option.getD_some]
          rw [← Array.all_toList, List.all_eq_true]
          intro e he
          cases hb : Region.binds .any e with
          | false => rfl
          | true =>
            have hlt := hedge i ops[i] e (Array.getElem?_eq_getElem hi) he hb
            simp [ih e.on hlt (by omega)]
        rw [hr] at this
        cases this
  have hend : ∀ (listed : Array Bool) (a : Act) (w : World), (∀ i, i < ops.size → listed.getD i false = true) → Rel x (stS (fun j => listed.getD j false) l s) a w → Q .normal a w := by
    intro listed a w h hR
    have : stS (fun j => listed.getD j false) l s = stS (fun _ => true) l s := by
      unfold stS
      rw [runS_ext (D' := fun _ => true) (l := l) (g := s.env) (fun j _ hj => h j (by omega)), runS_ext (D' := fun _ => true) (l := l) (g := s.rt) (fun j _ hj => h j (by omega)), runS_ext (D' := fun _ => true) (l := l) (g := s.used) (fun j _ hj => h j (by omega))]
    exact hQ a w (this ▸ hR)
  intro fuel
  induction fuel with
  | zero =>
    intro listed a w hsz hc _ hR
    have h1 : ∀ i, i < ops.size → listed.getD i false = true := fun i hi => by
      have hi' : i < listed.size := by omega
      have := List.countP_eq_zero.1 hc listed[i] (by simp)
      simpa [Array.getD, hi'] using this
    refine ⟨?_, hend listed a w h1 hR⟩
    unfold Region.ready
    rw [List.filter_eq_nil_iff]
    intro i hi
    have hi := List.mem_range.1 hi
    have := h1 i hi
    have hi' : i < listed.size := by omega
    have h2 : listed.getD i true = true := by
      rw [Array.getD_eq_getD_getElem?, Array.getElem?_eq_getElem hi', Option.getD_some] at this ⊢
      exact this
    rw [h2]
    simp
  | succ fuel ih =>
    intro listed a w hsz hc hcl hR
    refine ⟨fun hr => hend listed a w (hall listed hsz hr) hR, fun i hi => ?_⟩
    unfold Region.ready at hi
    rw [List.mem_filter] at hi
    obtain ⟨hi1, hi2⟩ := hi
    have hi0 := List.mem_range.1 hi1
    have hi' : i < listed.size := by omega
    simp only [Bool.and_eq_true, Array.getElem?_eq_getElem hi0, Option.map_some, Option.getD_some, Bool.not_eq_true'] at hi2
    obtain ⟨hL, hA⟩ := hi2
    rw [← Array.all_toList, List.all_eq_true] at hA
    have hLf : listed.getD i false = false := by
      simp only [Array.getD, hi', dif_pos] at hL ⊢
      exact hL
    have hpe : ∀ e ∈ ops[i].after.toList, Region.binds .any e = true → listed.getD e.on false = true := fun e he hb => by
      have := hA e he
      simpa [hb] using this
    have hil : i < l.length := by omega
    have hx : l[i]? = some l[i] := List.getElem?_eq_getElem hil
    have hoi := hget i _ hx
    have hoe : ops[i] = l[i].o := by rw [Array.getElem?_eq_getElem hi0] at hoi; exact Option.some.inj hoi
    -- closed under the order
    have hclo : ∀ j, ∀ i, ord i j → listed.getD j false = true → listed.getD i false = true := by
      intro j
      induction j using Nat.strongRecOn with
      | _ j ihj =>
        intro i ho hj
        obtain ⟨o, e, h1, h2, h3, h4⟩ := hord i j ho
        have he := hcl j o e h1 hj h2 h3
        rcases h4 with rfl | h4
        · exact he
        · exact ihj e.on (hedge j o e h1 h2 h3) i h4 he
    have hpre : ∀ j, ord j i → listed.getD j false = true := fun j ho => by
      obtain ⟨o, e, h1, h2, h3, h4⟩ := hord j i ho
      rw [Array.getElem?_eq_getElem hi0] at h1
      cases h1
      have he := hpe e h2 h3
      rcases h4 with rfl | h4
      · exact he
      · exact hclo e.on j h4 he
    have hS := step_at (D := fun j => listed.getD j false) hT hI (fun i j _ ho hj => hclo j i ho hj) hx hLf (fun j _ ho => hpre j ho)
    obtain ⟨μ, I, hX⟩ := hR
    have hgetD : ∀ j, (listed.setIfInBounds i true).getD j false = if j = i then true else listed.getD j false := fun j => by
      simp only [Array.getD_eq_getD_getElem?, Array.getElem?_setIfInBounds]
      by_cases e : i = j
      · subst e; simp [hi']
      · simp [e, Ne.symm e]
    unfold wpOp
    rw [hoi]
    simp only
    refine Step.sound hX (s := stS (fun j => listed.getD j false) l s) hS (fun d hd => hn i _ d hx hd) (fun hnew d hd => ?_) (fun a' w' hR' => ?_)
    · show runS wrU _ 0 l s.used d = false
      rw [runS_none locU (fun j y hy hw => ?_)]
      · rw [hu]
      · have := hI.dist i j _ y d hx hy hd hw.2
        subst this
        rw [Nat.zero_add]; exact hLf
    · refine ih (listed.setIfInBounds i true) a' w' (by simpa using hsz) ?_ (fun j o e h1 hj he hb => ?_) ?_
      · have h1 : listed[i] = false := by
          have := hLf
          simpa [Array.getD, hi'] using this
        rw [Array.toList_setIfInBounds, List.countP_set (by simpa using hi'), hc]
        simp [h1]
      · rw [hgetD] at hj ⊢
        split
        · rfl
        · split at hj
          · rename_i ej
            subst ej
            rw [Array.getElem?_eq_getElem hi0] at h1
            cases h1
            exact hpe e he hb
          · exact hcl j o e h1 hj he hb
      · have := stS_add (s := s) (D := fun j => listed.getD j false) (D' := fun j => (listed.setIfInBounds i true).getD j false) hI (fun i j _ ho hj => hclo j i ho hj) hx hLf (by simp only [hgetD, if_true]) (fun j hj => by simp only [hgetD, if_neg hj])
        rw [this]
        exact hR'
end

/-! ### Reckoned -/
structure FP where
  W : List Nm
  R : List Nm
def TE.fp (x : TE) : FP := ⟨x.f.rts.map (·.1), x.R⟩

def hasN (ρ : Nm) : List Nm → Bool
  | [] => false
  | σ :: l => if ρ = σ then true else hasN ρ l
theorem hasN_mem {ρ : Nm} : ∀ {l : List Nm}, hasN ρ l = false → ρ ∉ l
  | [], _ => by simp
  | σ :: l, h => by
    simp only [hasN] at h
    split at h
    · cases h
    · rename_i hne
      simp only [List.mem_cons, not_or]
      exact ⟨hne, hasN_mem h⟩
def disj : List Nm → List Nm → Bool
  | [], _ => true
  | ρ :: l, B => if hasN ρ B = true then false else disj l B
theorem disj_spec : ∀ {A B : List Nm}, disj A B = true → ∀ ρ ∈ A, ρ ∉ B
  | [], _, _, ρ, h => by simp at h
  | σ :: A, B, h, ρ, hρ => by
    simp only [disj] at h
    split at h
    · cases h
    · rename_i hn
      rcases List.mem_cons.1 hρ with rfl | h1
      · exact hasN_mem (by simpa using hn)
      · exact disj_spec h ρ h1

def chkW (T : List Nat) (i : Nat) (W : List Nm) : Nat → List FP → Bool
  | _, [] => true
  | k, ⟨W', R'⟩ :: l => if k = i then chkW T i W (k + 1) l else if (T.getD k 0).testBit i = true then chkW T i W (k + 1) l else if (T.getD i 0).testBit k = true then chkW T i W (k + 1) l else
    if disj W R' = true then if disj W W' = true then chkW T i W (k + 1) l else false else false
def chk (T : List Nat) : Nat → List FP → List FP → Bool
  | _, [], _ => true
  | i, ⟨[], _⟩ :: l, all => chk T (i + 1) l all
  | i, ⟨ρ :: W, _⟩ :: l, all => if chkW T i (ρ :: W) 0 all = true then chk T (i + 1) l all else false

theorem chkW_spec {T : List Nat} {i : Nat} {W : List Nm} : ∀ {l : List FP} {k : Nat}, chkW T i W k l = true → ∀ (j : Nat) (y : FP), l[j]? = some y → k + j ≠ i → (T.getD (k + j) 0).testBit i = false → (T.getD i 0).testBit (k + j) = false → disj W y.R = true ∧ disj W y.W = true
  | [], _, _, j, y, h => by simp at h
  | ⟨W', R'⟩ :: l, k, h, 0, y, hy => by
    simp only [List.getElem?_cons_zero, Option.some.injEq] at hy
    subst hy
    intro h1 h2 h3
    simp only [Nat.add_zero] at h1 h2 h3
    simp only [chkW, if_neg h1, h2, h3, Bool.false_eq_true, if_false] at h
    split at h
    · rename_i e1
      split at h
      · rename_i e2; exact ⟨e1, e2⟩
      · cases h
    · cases h
  | ⟨W', R'⟩ :: l, k, h, j + 1, y, hy => by
    have h' : chkW T i W (k + 1) l = true := by
      simp only [chkW] at h
      split at h
      · exact h
      · split at h
        · exact h
        · split at h
          · exact h
          · split at h
            · split at h
              · exact h
              · cases h
            · cases h
    have := chkW_spec h' j y (by simpa using hy)
    rwa [show k + 1 + j = k + (j + 1) by omega] at this
theorem chk_spec {T : List Nat} {all : List FP} : ∀ {l : List FP} {i : Nat}, chk T i l all = true → ∀ (j : Nat) (x : FP), l[j]? = some x → x.W ≠ [] → chkW T (i + j) x.W 0 all = true
  | [], _, _, j, x, h => by simp at h
  | ⟨[], R⟩ :: l, i, h, 0, x, hx => by simp at hx; subst hx; intro h; exact absurd rfl h
  | ⟨ρ :: W, R⟩ :: l, i, h, 0, x, hx => by
    simp only [List.getElem?_cons_zero, Option.some.injEq] at hx
    subst hx
    intro _
    simp only [chk] at h
    split at h
    · assumption
    · cases h
  | ⟨[], R⟩ :: l, i, h, j + 1, x, hx => by
    have := chk_spec (l := l) (i := i + 1) h j x (by simpa using hx)
    rwa [show i + 1 + j = i + (j + 1) by omega] at this
  | ⟨ρ :: W, R⟩ :: l, i, h, j + 1, x, hx => by
    have h' : chk T (i + 1) l all = true := by
      simp only [chk] at h
      split at h
      · exact h
      · cases h
    have := chk_spec (l := l) (i := i + 1) h' j x (by simpa using hx)
    rwa [show i + 1 + j = i + (j + 1) by omega] at this

/-- Who must have come up before whom: a table of masks, and what is asked of it. -/
def maskOf (T : List Nat) : List Edge → Nat
  | [] => 0
  | e :: l => if Region.binds .any e = true then 2 ^ e.on ||| T.getD e.on 0 ||| maskOf T l else maskOf T l
theorem maskOf_spec {T : List Nat} {i : Nat} : ∀ {l : List Edge}, (maskOf T l).testBit i = true → ∃ e ∈ l, Region.binds .any e = true ∧ (i = e.on ∨ (T.getD e.on 0).testBit i = true)
  | [], h => by simp [maskOf] at h
  | e :: l, h => by
    simp only [maskOf] at h
    split at h
    · rename_i hb
      simp only [Nat.testBit_or, Bool.or_eq_true] at h
      rcases h with (h | h) | h
      · rw [Nat.testBit_two_pow] at h
        exact ⟨e, by simp, hb, .inl (by have := of_decide_eq_true h; exact this.symm)⟩
      · exact ⟨e, by simp, hb, .inr h⟩
      · obtain ⟨e', h1, h2⟩ := maskOf_spec h
        exact ⟨e', by simp [h1], h2⟩
    · obtain ⟨e', h1, h2⟩ := maskOf_spec h
      exact ⟨e', by simp [h1], h2⟩

def drawOk (T : List Nat) (ops : Array Oper) : Bool := ops.toList.zipIdx.all fun p => (p.1.after.toList.all fun e => !Region.binds .any e || decide (e.on < p.2)) && (T.getD p.2 0 &&& maskOf T p.1.after.toList == T.getD p.2 0) &&
  ops.toList.zipIdx.all fun q => !decide (q.2 < p.2) || (T.getD p.2 0).testBit q.2 || q.1.apart ops p.1

theorem drawOk_spec {T : List Nat} {ops : Array Oper} (h : drawOk T ops = true) : (∀ (j : Nat) (o : Oper) (e : Edge), ops[j]? = some o → e ∈ o.after.toList → Region.binds .any e = true → e.on < j) ∧
    (∀ (j : Nat) (o : Oper) (i : Nat), ops[j]? = some o → (T.getD j 0).testBit i = true → ∃ e ∈ o.after.toList, Region.binds .any e = true ∧ (i = e.on ∨ (T.getD e.on 0).testBit i = true)) ∧
    (∀ (i j : Nat) (x y : Oper), i < j → ops[i]? = some x → ops[j]? = some y → (T.getD j 0).testBit i = false → x.apart ops y = true) := by
  unfold drawOk at h
  rw [List.all_eq_true] at h
  have hm : ∀ (j : Nat) (o : Oper), ops[j]? = some o → (o, j) ∈ ops.toList.zipIdx := fun j o ho => by
    rw [List.mem_zipIdx_iff_getElem?]
    simpa using ho
  refine ⟨fun j o e ho he hb => ?_, fun j o i ho hi => ?_, fun i j x y hij hx hy hT => ?_⟩
  · have := h _ (hm j o ho)
    simp only [Bool.and_eq_true, List.all_eq_true, Bool.or_eq_true, Bool.not_eq_true', decide_eq_true_eq] at this
    rcases this.1.1 e he with h1 | h1
    · rw [hb] at h1; cases h1
    · exact h1
  · have := h _ (hm j o ho)
    simp only [Bool.and_eq_true, beq_iff_eq] at this
    have h1 : (T.getD j 0 &&& maskOf T o.after.toList).testBit i = true := by rw [this.1.2]; exact hi
    rw [Nat.testBit_and, Bool.and_eq_true] at h1
    exact maskOf_spec h1.2
  · have := h _ (hm j y hy)
    simp only [Bool.and_eq_true, List.all_eq_true, Bool.or_eq_true, Bool.not_eq_true', decide_eq_false_iff_not] at this
    rcases this.2 _ (hm i x hx) with (h1 | h1) | h1
    · exact absurd hij h1
    · rw [hT] at h1; cases h1
    · exact h1

def pickR (rt : List (Nm × Root)) : List Nm → List (Nm × Root)
  | [] => []
  | ρ :: l => match lk rt ρ with
    | some r => (ρ, r) :: pickR rt l
    | none => pickR rt l
theorem lk_pickR {rt : List (Nm × Root)} : ∀ {l : List Nm} {ρ : Nm} {r : Root}, lk (pickR rt l) ρ = some r → ρ ∈ l ∧ lk rt ρ = some r
  | [], _, _, h => by simp [pickR, lk] at h
  | σ :: l, ρ, r, h => by
    simp only [pickR] at h
    split at h
    · rename_i r0 h0
      simp only [lk] at h
      split at h
      · rename_i e; cases h; subst e; exact ⟨by simp, h0⟩
      · have := lk_pickR h; exact ⟨by simp [this.1], this.2⟩
    · have := lk_pickR h; exact ⟨by simp [this.1], this.2⟩

/-- The names that an operation's operands lead to. -/
def footN (l : LS) (o : Oper) : List Nm := match o.op with
  | .move _ => []
  | .load _ y => dd (match evE (lk l.env) y with
    | some e => refE e
    | none => [])
  | .fieldAddr _ y _ => dd (match evE (lk l.env) y with
    | some e => refE e
    | none => [])
  | .nilCheck y => dd (match evE (lk l.env) y with
    | some e => refE e
    | none => [])
  | _ => dd (reach (lk l.rt) 8 (o.op.operands.toList.flatMap fun y => match evE (lk l.env) y with
    | some e => refE e
    | none => []))

/-- A list of names, reckoned. -/
def nfL : List Nm → Option (List Nm)
  | [] => some []
  | ρ :: l => match nfL l with
    | some l' => some (ρ :: l')
    | none => none
theorem nfL_eq : ∀ l, nfL l = some l
  | [] => rfl
  | ρ :: l => by simp [nfL, nfL_eq l]

def vopD (P : Program) (H : Hint) (ops : Array Oper) (o : Oper) (l : LS) (K : LS → FP → Prop) : Prop := match nfL (footN l o) with
  | none => False
  | some R => match o.guard with
    | none => vexec P H o (lk (pickR l.rt R)) l fun l' rts => K l' ⟨rts.map (·.1), R⟩
    | some (j, want) => match (ops[j]?).bind (·.dst) with
      | some t => match lk l.env t with
        | some (.x (.o (.c (.v (.bool b))))) => if b = want then vexec P H o (lk (pickR l.rt R)) (l.put t (sc (.bool want))) (fun l' rts => K l' ⟨rts.map (·.1), R⟩) else force ((l.put t (sc (.bool !want))).app o.dst (some (.t [])) []) fun l' => K l' ⟨[], []⟩
        | some (.t []) => force (l.app o.dst (some (.t [])) []) fun l' => K l' ⟨[], []⟩
        | _ => False
      | none => False

def vopsD (P : Program) (H : Hint) (T : List Nat) (ops : Array Oper) : List Oper → LS → List FP → (LS → Prop) → Prop
  | [], l, acc, K => chk T 0 acc acc = true ∧ K l
  | o :: rest, l, acc, K => vopD P H ops o l fun l' fp => vopsD P H T ops rest l' (acc ++ [fp]) K

section
variable {P : Program} {H : Hint} {ops : Array Oper} {T : List Nat}

theorem vopD_step (hH : H.ok P) {o : Oper} {l : LS} {K : LS → FP → Prop} (h : vopD P H ops o l K) : ∃ (x : TE) (l1 : LS) (rd : Nm → Option Root), x.o = o ∧ (∀ ρ r, rd ρ = some r → ρ ∈ x.R ∧ lk l.rt ρ = some r) ∧ Step P ops (lk l.env) rd l.ep o x.f ∧ lk l1.env = lk l.env ∧ l1.rt = l.rt ∧ l1.ep = l.ep ∧ K (l1.app o.dst x.f.val x.f.rts) x.fp := by
  unfold vopD at h
  rw [nfL_eq] at h
  simp only at h
  split at h
  · rename_i hg
    obtain ⟨f, hD, hK⟩ := vexec_step hH h
    exact ⟨⟨o, f, footN l o⟩, l, _, rfl, fun ρ r hr => lk_pickR hr, .run (by simp [gdE, hg]) hD, rfl, rfl, rfl, hK⟩
  · rename_i j want hg
    split at h
    · rename_i t ht
      split at h
      · rename_i b hb
        have hgd : gdE ops (lk l.env) o = some (b == want) := by simp [gdE, hg, ht, hb, isB]
        by_cases hbw : b = want
        · subst hbw
          rw [if_pos rfl] at h
          obtain ⟨f, hD, hK⟩ := vexec_step hH h
          have e1 := put_same (l := l) (e := sc (.bool b)) hb
          rw [e1] at hD
          exact ⟨⟨o, f, footN l o⟩, _, _, rfl, fun ρ r hr => lk_pickR hr, .run (by rw [hgd]; simp) hD, e1, rfl, rfl, hK⟩
        · rw [if_neg hbw] at h
          have hb' : b = !want := by cases b <;> cases want <;> simp_all
          subst hb'
          exact ⟨⟨o, skipEff, []⟩, _, fun _ => none, rfl, fun _ _ h => (by cases h), .skip (by rw [hgd]; cases want <;> rfl), put_same (l := l) hb, rfl, rfl, h⟩
      · rename_i hU
        exact ⟨⟨o, skipEff, []⟩, l, fun _ => none, rfl, fun _ _ h => (by cases h), .skip (by simp [gdE, hg, ht, hU, isB, isU]), rfl, rfl, rfl, h⟩
      · exact h.elim
    · exact h.elim

theorem vopsD_trace (hH : H.ok P) {K : LS → Prop} : ∀ (rest : List Oper) (l : LS) (acc : List FP), vopsD P H T ops rest l acc K → ∃ (tr : List TE) (l' : LS), tr.map (·.o) = rest ∧ Tr P ops l.ep (lk l.env) (lk l.rt) tr ∧
    (∀ k, runS wrE (fun _ => true) k tr (lk l.env) = lk l'.env) ∧ (∀ k, runS wrR (fun _ => true) k tr (lk l.rt) = lk l'.rt) ∧ l'.ep = l.ep ∧ chk T 0 (acc ++ tr.map TE.fp) (acc ++ tr.map TE.fp) = true ∧ K l'
  | [], l, acc, h => ⟨[], l, rfl, .nil, fun _ => rfl, fun _ => rfl, rfl, by simpa using h.1, h.2⟩
  | o :: rest, l, acc, h => by
    obtain ⟨x, l1, rd, rfl, hrd, hS, e1, e2, e3, hK⟩ := vopD_step hH h
    obtain ⟨tr, l', h1, h2, h3, h4, h5, h6, h7⟩ := vopsD_trace hH rest _ _ hK
    have g1 : lk (l1.app x.o.dst x.f.val x.f.rts).env = wrE x (lk l.env) := by
      have := congrArg St.env (den_app l1 (fun _ => false) x.o.dst x.f)
      simp only [LS.den, St.app, e1] at this
      exact this
    have g2 : lk (l1.app x.o.dst x.f.val x.f.rts).rt = wrR x (lk l.rt) := by
      have := congrArg St.rt (den_app l1 (fun _ => false) x.o.dst x.f)
      simp only [LS.den, St.app, e2] at this
      exact this
    have g3 : (l1.app x.o.dst x.f.val x.f.rts).ep = l.ep := e3
    rw [g1, g2, g3] at h2
    refine ⟨x :: tr, l', by simp [h1], .cons hrd hS h2, fun k => ?_, fun k => ?_, h5.trans g3, by simpa using h6, h7⟩
    · simp only [runS, if_true, ← g1]; exact h3 _
    · simp only [runS, if_true, ← g2]; exact h4 _

theorem wfDst_dist {n : Nat} : ∀ {rest : List Oper} {seen : List Nat}, wfDst n seen rest = true → (∀ (i : Nat) (x : Oper) (d : Nat), rest[i]? = some x → x.dst = some d → d < n ∧ d ∉ seen) ∧ (∀ (i j : Nat) (x y : Oper) (d : Nat), rest[i]? = some x → rest[j]? = some y → x.dst = some d → y.dst = some d → i = j)
  | [], _, _ => ⟨fun i x d h => by simp at h, fun i j x y d h => by simp at h⟩
  | o :: rest, seen, h => by
    cases hd : o.dst with
    | none =>
      have ih := wfDst_dist (rest := rest) (seen := seen) (by simpa [wfDst, hd] using h)
      refine ⟨fun i x d hx hxd => ?_, fun i j x y d hx hy hxd hyd => ?_⟩
      · cases i with
        | zero => simp at hx; subst hx; rw [hd] at hxd; cases hxd
        | succ i => exact ih.1 i x d (by simpa using hx) hxd
      · cases i with
        | zero => simp at hx; subst hx; rw [hd] at hxd; cases hxd
        | succ i =>
          cases j with
          | zero => simp at hy; subst hy; rw [hd] at hyd; cases hyd
          | succ j => rw [ih.2 i j x y d (by simpa using hx) (by simpa using hy) hxd hyd]
    | some e =>
      simp only [wfDst, hd, Bool.and_eq_true, decide_eq_true_eq, Bool.not_eq_true'] at h
      have ih := wfDst_dist (rest := rest) (seen := e :: seen) h.2
      have he : e ∉ seen := by simpa using h.1.2
      refine ⟨fun i x d hx hxd => ?_, fun i j x y d hx hy hxd hyd => ?_⟩
      · cases i with
        | zero => simp at hx; subst hx; rw [hd] at hxd; cases hxd; exact ⟨h.1.1, he⟩
        | succ i =>
          have := ih.1 i x d (by simpa using hx) hxd
          exact ⟨this.1, fun hm => this.2 (by simp [hm])⟩
      · cases i with
        | zero =>
          simp at hx; subst hx; rw [hd] at hxd; cases hxd
          cases j with
          | zero => rfl
          | succ j => exact absurd (by simp) (ih.1 j y e (by simpa using hy) hyd).2
        | succ i =>
          cases j with
          | zero =>
            simp at hy; subst hy; rw [hd] at hyd; cases hyd
            exact absurd (by simp) (ih.1 i x e (by simpa using hx) hxd).2
          | succ j => rw [ih.2 i j x y d (by simpa using hx) (by simpa using hy) hxd hyd]

theorem vopsD_uni (hH : H.ok P) {K : LS → Prop} (hdr : drawOk T ops = true) {l : LS} (h : vopsD P H T ops ops.toList l [] K) : ∃ l', K l' ∧ ∀ (x : Ctx) (Q : Exit → Act → World → Prop) (id : Nat) (a : Act) (w : World),
    (∀ used a w, Rel x (l'.den used) a w → Q .normal a w) → wfDst x.n [] ops.toList = true → Rel x (l.den fun _ => false) a w → (Code.region id ops true).wp P Q a w := by
  obtain ⟨tr, l', h1, h2, h3, h4, h5, h6, h7⟩ := vopsD_trace hH _ _ _ h
  refine ⟨l', h7, fun x Q id a w hQ hwf hR => ?_⟩
  simp only [List.nil_append] at h6
  obtain ⟨d1, d2, d3⟩ := drawOk_spec hdr
  have hget : ∀ (i : Nat) (y : TE), tr[i]? = some y → ops[i]? = some y.o ∧ ops.toList[i]? = some y.o := fun i y hy => by
    have : (tr.map (·.o))[i]? = some y.o := by simp [hy]
    rw [h1] at this
    exact ⟨by simpa using this, this⟩
  have hlt : ∀ (j : Nat) (o : Oper) (i : Nat), ops[j]? = some o → (T.getD j 0).testBit i = true → i < j := by
    intro j
    induction j using Nat.strongRecOn with
    | _ j ih =>
      intro o i ho hi
      obtain ⟨e, he, hb, h1⟩ := d2 j o i ho hi
      have hej := d1 j o e ho he hb
      rcases h1 with rfl | h1
      · exact hej
      · have hes : e.on < ops.size := by
          have := (Array.getElem?_eq_some_iff.1 ho).1; omega
        have := ih e.on hej ops[e.on] i (Array.getElem?_eq_getElem hes) h1
        omega
  have hdist := wfDst_dist hwf
  have hnm : ∀ (i j : Nat) (y z : TE), tr[i]? = some y → tr[j]? = some z → i ≠ j → (T.getD j 0).testBit i = false → (T.getD i 0).testBit j = false → ∀ ρ, WR y ρ → ρ ∉ z.R ∧ ¬ WR z ρ := fun i j y z hy hz hij t1 t2 ρ hρ => by
    have hy' : (tr.map TE.fp)[i]? = some y.fp := by simp [hy]
    have hz' : (tr.map TE.fp)[j]? = some z.fp := by simp [hz]
    have hne : y.fp.W ≠ [] := fun e => by
      have : ρ ∈ y.fp.W := hρ
      rw [e] at this; cases this
    have hc := chk_spec h6 i _ hy' hne
    rw [Nat.zero_add] at hc
    obtain ⟨a1, a2⟩ := chkW_spec hc j _ hz' (by omega) (by rw [Nat.zero_add]; exact t1) (by rw [Nat.zero_add]; exact t2)
    exact ⟨disj_spec a1 ρ hρ, disj_spec a2 ρ hρ⟩
  have hind : Indep ops (fun i j => (T.getD j 0).testBit i = true ∧ j < ops.size) tr := by
    refine ⟨fun i j y z hij hy hz ho => ?_, fun i j y z hij hy hz ho => ?_, fun i j y z d hy hz hyd hzd => hdist.2 i j _ _ d (hget i y hy).2 (hget j z hz).2 hyd hzd⟩
    all_goals
      have hj : j < ops.size := (Array.getElem?_eq_some_iff.1 (hget j z hz).1).1
      have t1 : (T.getD j 0).testBit i = false := by
        cases hT : (T.getD j 0).testBit i with
        | false => rfl
        | true => exact absurd ⟨hT, hj⟩ ho
    · exact d3 i j _ _ hij (hget i y hy).1 (hget j z hz).1 t1
    · have t2 : (T.getD i 0).testBit j = false := by
        cases hT : (T.getD i 0).testBit j with
        | false => rfl
        | true => have := hlt i _ j (hget i y hy).1 hT; omega
      refine ⟨hnm i j y z hy hz (by omega) t1 t2, fun ρ hρ => (hnm j i z y hz hy (by omega) t2 t1 ρ hρ).1⟩
  obtain ⟨μ, I, hX⟩ := hR
  refine wp_region_any hH.mix (draw_sound (s := l.den fun _ => false) (ord := fun i j => (T.getD j 0).testBit i = true ∧ j < ops.size) h1 h2 hind d1 (fun i j ho => ?_) rfl (fun j y d hy hyd => (hdist.1 j _ d (hget j y hy).2 hyd).1) (fun a' w' hR' => ?_) ops.size _ a _ (by simp) ?_ (fun j o e hj hL => ?_) ?_)
  · obtain ⟨e, he, hb, h8⟩ := d2 j ops[j] i (Array.getElem?_eq_getElem ho.2) ho.1
    have hej := d1 j _ e (Array.getElem?_eq_getElem ho.2) he hb
    exact ⟨ops[j], e, Array.getElem?_eq_getElem ho.2, he, hb, h8.imp (fun h => h) fun h => ⟨h, by omega⟩⟩
  · have : stS (fun _ => true) tr (l.den fun _ => false) = l'.den (runS wrU (fun _ => true) 0 tr fun _ => false) := by
      unfold stS LS.den
      simp only [h3 0, h4 0, h5]
    rw [this] at hR'
    exact hQ _ a' w' hR'
  · rw [List.countP_eq_length.2]
    · simp
    · intro b hb
      simp at hb
      simp [hb.2]
  · exfalso
    rw [Array.getD_eq_getD_getElem?, Array.getElem?_replicate] at hL
    split at hL <;> simp at hL
  · have : stS (fun j => (Array.replicate ops.size false).getD j false) tr (l.den fun _ => false) = l.den fun _ => false := by
      have hoff : ∀ j, 0 ≤ j → (Array.replicate ops.size false).getD j false = false := fun j _ => by
        rw [Array.getD_eq_getD_getElem?, Array.getElem?_replicate]
        split <;> rfl
      unfold stS
      rw [runS_off hoff, runS_off hoff, runS_off hoff]
    rw [this]
    exact ⟨μ, I, hX.alk ⟨rfl, rfl, rfl, rfl⟩⟩

end

end Go.Proofs.YtcgkhljolflenaaGreatW.V
