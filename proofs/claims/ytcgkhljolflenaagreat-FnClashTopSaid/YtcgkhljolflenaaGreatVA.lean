/- Plain values for the memory of a Go program, and what it is that a world bears them out. No condition but each theorem's own. -/
import Derived.WalkKit
namespace Go.Proofs.YtcgkhljolflenaaGreatW.V
open Go

abbrev Nm := Nat × Nat

inductive C where
  | v (x : Value)
  | s (xs : List (List C))

inductive D where
  | c (x : C)
  | h (ρ : Nm) (i n m : Nat)
  | p (ρ : Nm) (i o m : Nat)
  | e (xs : List (List C)) (i o : Nat)

inductive A where
  | o (x : D)
  | a (cs : List D)

inductive E where
  | x (x : A)
  | t (vs : List A)

inductive Root where
  | row (k : Nat) (xs : List (List C))
  | bx (xs : List (List D))
  | it (s : ByteArray) (p : Nat)
  | mp (es : List (Value × Value))

def Root.len : Root → Nat
  | .row _ xs => xs.length
  | .bx xs => xs.length
  | .it _ _ => 1
  | .mp _ => 0
/-- What a pointer may go to: the length of a root that is memory. -/
def Root.plen : Root → Option Nat
  | .mp _ => none
  | r => some r.len

structure Info where
  b : Option Nat
  e : TypeId
  k : Nat
  cap : Nat

abbrev Imm := Nat → Nat → Prop
abbrev Mu := Nm → Option Info
abbrev Lens := Nm → Option Nat

inductive F2 {α β : Type} (R : α → β → Prop) : List α → List β → Prop
  | nil : F2 R [] []
  | cons {a b as bs} : R a b → F2 R as bs → F2 R (a :: as) (b :: bs)

theorem F2.mono {α β : Type} {R R' : α → β → Prop} (h : ∀ a b, R a b → R' a b) : ∀ {xs : List α} {ys : List β}, F2 R xs ys → F2 R' xs ys
  | _, _, .nil => .nil
  | _, _, .cons a b => .cons (h _ _ a) (F2.mono h b)
theorem F2.length {α β : Type} {R : α → β → Prop} : ∀ {xs : List α} {ys : List β}, F2 R xs ys → xs.length = ys.length
  | _, _, .nil => rfl
  | _, _, .cons _ b => by simp [F2.length b]
theorem F2.get {α β : Type} {R : α → β → Prop} : ∀ {xs : List α} {ys : List β}, F2 R xs ys → ∀ (j : Nat) x, xs[j]? = some x → ∃ y, ys[j]? = some y ∧ R x y
  | _, _, .cons (b := b) a _, 0, x, h => by simp at h; subst h; exact ⟨b, by simp, a⟩
  | _, _, .cons _ t, j + 1, x, h => by simpa using F2.get t j x (by simpa using h)
theorem F2.of {α β : Type} {R : α → β → Prop} : ∀ {xs : List α} {ys : List β}, xs.length = ys.length → (∀ (j : Nat) x y, xs[j]? = some x → ys[j]? = some y → R x y) → F2 R xs ys
  | [], [], _, _ => .nil
  | [], _ :: _, h, _ => by simp at h
  | _ :: _, [], h, _ => by simp at h
  | x :: xs, y :: ys, h, hr => .cons (hr 0 x y (by simp) (by simp)) (F2.of (by simpa using h) fun j a b ha hb => hr (j + 1) a b (by simpa using ha) (by simpa using hb))
theorem F2.append {α β : Type} {R : α → β → Prop} : ∀ {xs : List α} {ys : List β} {xs' : List α} {ys' : List β}, F2 R xs ys → F2 R xs' ys' → F2 R (xs ++ xs') (ys ++ ys')
  | _, _, _, _, .nil, h => h
  | _, _, _, _, .cons a b, h => .cons a (F2.append b h)
theorem F2.take {α β : Type} {R : α → β → Prop} : ∀ (n : Nat) {xs : List α} {ys : List β}, F2 R xs ys → F2 R (xs.take n) (ys.take n)
  | 0, _, _, _ => by simpa using F2.nil
  | n + 1, _, _, .nil => by simpa using F2.nil
  | n + 1, _, _, .cons a b => by simp only [List.take_succ_cons]; exact .cons a (F2.take n b)
theorem F2.drop {α β : Type} {R : α → β → Prop} : ∀ (n : Nat) {xs : List α} {ys : List β}, F2 R xs ys → F2 R (xs.drop n) (ys.drop n)
  | 0, _, _, h => by simpa using h
  | n + 1, _, _, .nil => by simpa using F2.nil
  | n + 1, _, _, .cons a b => by simp only [List.drop_succ_cons]; exact F2.drop n b
theorem F2.map {α β γ δ : Type} {R : α → β → Prop} {S : γ → δ → Prop} (f : α → γ) (g : β → δ) (h : ∀ a b, R a b → S (f a) (g b)) : ∀ {xs : List α} {ys : List β}, F2 R xs ys → F2 S (xs.map f) (ys.map g)
  | _, _, .nil => .nil
  | _, _, .cons a b => .cons (h _ _ a) (F2.map f g h b)

inductive CR (w : World) (I : Imm) : C → Value → Prop
  | v (x : Value) (h : x.oneCell' = true) : CR w I (.v x) x
  | nil (q : Option Addr) (c : Nat) : CR w I (.s []) (.slice q 0 c)
  | s (xs : List (List C)) (b o k c : Nat) (us : List Value) (hcap : xs.length ≤ c) (hk : ∀ x ∈ xs, x.length = k) (hl : us.length = xs.flatten.length)
      (hc : ∀ (j : Nat) u, us[j]? = some u → w.cell? ⟨b, o + j, none⟩ = some u ∧ I b (o + j))
      (hr : ∀ (j : Nat) x u, xs.flatten[j]? = some x → us[j]? = some u → CR w I x u) : CR w I (.s xs) (.slice (some ⟨b, o, none⟩) xs.length c)

/-- The cells of a list that nobody writes. -/
structure SB (w : World) (I : Imm) (xs : List (List C)) (b o k : Nat) (us : List Value) : Prop where
  hk : ∀ x ∈ xs, x.length = k
  hl : us.length = xs.flatten.length
  hc : ∀ (j : Nat) u, us[j]? = some u → w.cell? ⟨b, o + j, none⟩ = some u ∧ I b (o + j)
  hr : ∀ (j : Nat) x u, xs.flatten[j]? = some x → us[j]? = some u → CR w I x u

/-- What stands in cells that nobody writes stays. -/
def Stays (w : World) (I : Imm) (w' : World) (I' : Imm) : Prop := ∀ b o, I b o → I' b o ∧ w'.cell? ⟨b, o, none⟩ = w.cell? ⟨b, o, none⟩

theorem Stays.refl (w : World) (I : Imm) : Stays w I w I := fun _ _ h => ⟨h, rfl⟩
theorem Stays.trans {w w' w'' : World} {I I' I'' : Imm} (h : Stays w I w' I') (h' : Stays w' I' w'' I'') : Stays w I w'' I'' :=
  fun b o hi => ⟨(h' b o (h b o hi).1).1, ((h' b o (h b o hi).1).2).trans (h b o hi).2⟩

theorem CR.mono {w w' : World} {I I' : Imm} (hs : Stays w I w' I') {x : C} {u : Value} (h : CR w I x u) : CR w' I' x u := by
  induction h with
  | v x h => exact .v x h
  | nil q c => exact .nil q c
  | s xs b o k c us hcap hk hl hc hr ih =>
    exact .s xs b o k c us hcap hk hl (fun j u hu => ⟨(hs b (o + j) (hc j u hu).2).2.trans (hc j u hu).1, (hs b (o + j) (hc j u hu).2).1⟩) ih

theorem CR.one {w : World} {I : Imm} {x : C} {u : Value} (h : CR w I x u) : u.oneCell' = true := by
  cases h with
  | v h => assumption
  | _ => rfl

theorem SB.mono {w w' : World} {I I' : Imm} (hs : Stays w I w' I') {xs : List (List C)} {b o k : Nat} {us : List Value} (h : SB w I xs b o k us) : SB w' I' xs b o k us :=
  ⟨h.hk, h.hl, fun j u hu => ⟨(hs b (o + j) (h.hc j u hu).2).2.trans (h.hc j u hu).1, (hs b (o + j) (h.hc j u hu).2).1⟩, fun j x u hx hu => (h.hr j x u hx hu).mono hs⟩

theorem SB.cr {w : World} {I : Imm} {xs : List (List C)} {b o k : Nat} {us : List Value} (h : SB w I xs b o k us) {c : Nat} (hc : xs.length ≤ c) : CR w I (.s xs) (.slice (some ⟨b, o, none⟩) xs.length c) :=
  .s xs b o k c us hc h.hk h.hl h.hc h.hr

theorem CR.slice {w : World} {I : Imm} {xs : List (List C)} {u : Value} (h : CR w I (.s xs) u) :
    ∃ q c, u = .slice q xs.length c ∧ xs.length ≤ c ∧ (xs = [] ∨ ∃ b o k us, q = some ⟨b, o, none⟩ ∧ SB w I xs b o k us) := by
  cases h with
  | nil q c => exact ⟨q, c, rfl, Nat.zero_le _, .inl rfl⟩
  | s _ b o k c us hcap hk hl hc hr => exact ⟨_, _, rfl, hcap, .inr ⟨b, o, k, us, rfl, hk, hl, hc, hr⟩⟩

def HR (f : Info) (i n : Nat) (u : Value) : Prop :=
  (n = 0 ∧ 0 < i ∧ ∃ q c, u = .slice q 0 c) ∨ (f.b = none ∧ i = 0 ∧ n = 0 ∧ u = .slice none 0 0) ∨
  (∃ b c, f.b = some b ∧ u = .slice (some ⟨b, i * f.k, none⟩) n c ∧ i + c = f.cap)

/-- The capacity that marks a map's name. -/
def mapCap : Nat := maxLen + 1
def ptV (f : Info) (b n : Nat) : Value := if f.cap = mapCap then .map (some b) else .pointer (some ⟨b, n, none⟩)
theorem ptV_le {f : Info} {b n : Nat} (h : f.cap ≤ maxLen) : ptV f b n = .pointer (some ⟨b, n, none⟩) := if_neg fun e => by rw [e, mapCap] at h; omega
theorem ptV_map {f : Info} {b n : Nat} (h : f.cap = mapCap) : ptV f b n = .map (some b) := if_pos h

def DR (w : World) (I : Imm) (μ : Mu) (L : Lens) : D → Value → Prop
  | .c x, u => CR w I x u
  | .h ρ i n m, u => u.oneCell' = true ∧ ∃ f, μ ρ = some f ∧ ∀ l, L ρ = some l → m ≤ l ∧ (l = m → i + n ≤ m ∧ HR f i n u)
  | .p ρ i o m, u => u.oneCell' = true ∧ ∃ f, μ ρ = some f ∧ ∀ l, L ρ = some l → m ≤ l ∧ (l = m → ∃ b, f.b = some b ∧ u = ptV f b (i * f.k + o))
  | .e xs i o, u => ∃ b oo k us, SB w I xs b oo k us ∧ u = .pointer (some ⟨b, oo + (i * k + o), none⟩)

/-- Names keep what they stand for, unless the row has grown. -/
def Kept (μ : Mu) (L : Lens) (μ' : Mu) (L' : Lens) : Prop :=
  ∀ ρ f, μ ρ = some f → ∃ f', μ' ρ = some f' ∧ ∀ l', L' ρ = some l' → ∃ l, L ρ = some l ∧ l ≤ l' ∧ (l' = l → f' = f)

theorem Kept.refl (μ : Mu) (L : Lens) : Kept μ L μ L := fun _ f h => ⟨f, h, fun l h => ⟨l, h, Nat.le_refl _, fun _ => rfl⟩⟩
theorem Kept.trans {μ μ' μ'' : Mu} {L L' L'' : Lens} (h : Kept μ L μ' L') (h' : Kept μ' L' μ'' L'') : Kept μ L μ'' L'' := fun ρ f hf => by
  obtain ⟨f1, h1, h2⟩ := h ρ f hf
  obtain ⟨f2, h3, h4⟩ := h' ρ f1 h1
  refine ⟨f2, h3, fun l'' hl'' => ?_⟩
  obtain ⟨l', hl', a1, a2⟩ := h4 l'' hl''
  obtain ⟨l, hl, b1, b2⟩ := h2 l' hl'
  exact ⟨l, hl, by omega, fun e => by rw [a2 (by omega), b2 (by omega)]⟩

theorem DR.mono {w w' : World} {I I' : Imm} {μ μ' : Mu} {L L' : Lens} (hs : Stays w I w' I') (hk : Kept μ L μ' L') {x : D} {u : Value} (h : DR w I μ L x u) : DR w' I' μ' L' x u := by
  cases x with
  | c x => exact CR.mono hs h
  | h ρ i n m =>
    obtain ⟨h0, f, hf, h⟩ := h
    obtain ⟨f', hf', h'⟩ := hk ρ f hf
    refine ⟨h0, f', hf', fun l' hl' => ?_⟩
    obtain ⟨l, hl, h1, h2⟩ := h' l' hl'
    obtain ⟨h3, h4⟩ := h l hl
    refine ⟨by omega, fun e => ?_⟩
    rw [h2 (by omega)]
    exact h4 (by omega)
  | p ρ i o m =>
    obtain ⟨h0, f, hf, h⟩ := h
    obtain ⟨f', hf', h'⟩ := hk ρ f hf
    refine ⟨h0, f', hf', fun l' hl' => ?_⟩
    obtain ⟨l, hl, h1, h2⟩ := h' l' hl'
    obtain ⟨h3, h4⟩ := h l hl
    refine ⟨by omega, fun e => ?_⟩
    rw [h2 (by omega)]
    exact h4 (by omega)
  | e xs i o =>
    obtain ⟨b, oo, k, us, hb, e⟩ := h
    exact ⟨b, oo, k, us, hb.mono hs, e⟩

theorem DR.one {w : World} {I : Imm} {μ : Mu} {L : Lens} {x : D} {u : Value} (h : DR w I μ L x u) : u.oneCell' = true := by
  cases x with
  | c x => exact CR.one h
  | h ρ i n m => exact h.1
  | p ρ i o m => exact h.1
  | e xs i o => obtain ⟨_, _, _, _, _, rfl⟩ := h; rfl

def AR (w : World) (I : Imm) (μ : Mu) (L : Lens) : A → Value → Prop
  | .o x, u => DR w I μ L x u
  | .a cs, u => ∃ us : List Value, u = .agg us.toArray ∧ F2 (DR w I μ L) cs us

def ER (w : World) (I : Imm) (μ : Mu) (L : Lens) : E → Value → Prop
  | .x x, u => AR w I μ L x u
  | .t vs, u => ∃ us : List Value, u = .tuple us.toArray ∧ F2 (AR w I μ L) vs us

theorem AR.mono {w w' : World} {I I' : Imm} {μ μ' : Mu} {L L' : Lens} (hs : Stays w I w' I') (hk : Kept μ L μ' L') {x : A} {u : Value} (h : AR w I μ L x u) : AR w' I' μ' L' x u := by
  cases x with
  | o x => exact DR.mono hs hk h
  | a cs => obtain ⟨us, e, h⟩ := h; exact ⟨us, e, F2.mono (fun _ _ => DR.mono hs hk) h⟩

theorem ER.mono {w w' : World} {I I' : Imm} {μ μ' : Mu} {L L' : Lens} (hs : Stays w I w' I') (hk : Kept μ L μ' L') {x : E} {u : Value} (h : ER w I μ L x u) : ER w' I' μ' L' x u := by
  cases x with
  | x x => exact AR.mono hs hk h
  | t vs => obtain ⟨us, e, h⟩ := h; exact ⟨us, e, F2.mono (fun _ _ => AR.mono hs hk) h⟩

/-- A block of one's own: its first cells. -/
def Own (w : World) (f : Info) (n : Nat) (us : List Value) : Prop :=
  us.length = n * f.k ∧ match f.b with
  | none => n = 0 ∧ f.cap = 0
  | some b => ∃ cur, w.heap[b]? = some (.cells cur f.e (0, 0)) ∧ n ≤ f.cap ∧ f.cap ≤ maxLen ∧ cur.size = f.cap * f.k ∧ cur.toList.take (n * f.k) = us

theorem Own.same {w w' : World} {f : Info} {n : Nat} {us : List Value} (h : Own w f n us) (hb : ∀ b, f.b = some b → w'.heap[b]? = w.heap[b]?) : Own w' f n us := by
  obtain ⟨h1, h2⟩ := h
  refine ⟨h1, ?_⟩
  cases hf : f.b with
  | none => rw [hf] at h2; exact h2
  | some b =>
    rw [hf] at h2
    obtain ⟨cur, h3, h4⟩ := h2
    exact ⟨cur, by rw [hb b hf]; exact h3, h4⟩

def RR (w : World) (I : Imm) (μ : Mu) (L : Lens) : Root → Info → Prop
  | .row kk xs, f => (∀ x ∈ xs, x.length = f.k) ∧ (∃ us, F2 (CR w I) xs.flatten us ∧ Own w f xs.length us) ∧ f.k = kk
  | .bx xs, f => (∀ x ∈ xs, x.length = f.k) ∧ ∃ us, F2 (DR w I μ L) xs.flatten us ∧ Own w f xs.length us
  | .it s p, f => f.cap = 0 ∧ ∃ b, f.b = some b ∧ w.heap[b]? = some (.stringIter s p)
  | .mp es, f => f.cap = mapCap ∧ ∃ b as c, f.b = some b ∧ w.heap[b]? = some (.map as c) ∧ as.toList.map (fun e => (e.key, e.val)) = es

theorem RR.cap {w : World} {I : Imm} {μ : Mu} {L : Lens} {r : Root} {f : Info} {m b : Nat} (h : RR w I μ L r f) (hm : r.plen = some m) (hb : f.b = some b) : f.cap ≤ maxLen := by
  cases r with
  | row kk xs => obtain ⟨_, ⟨us, _, _, h3⟩, _⟩ := h; rw [hb] at h3; obtain ⟨_, _, _, h4, _⟩ := h3; exact h4
  | bx xs => obtain ⟨_, us, _, _, h3⟩ := h; rw [hb] at h3; obtain ⟨_, _, _, h4, _⟩ := h3; exact h4
  | it s p => rw [h.1]; exact Nat.zero_le _
  | mp es => cases hm

theorem RR.mono {w w' : World} {I I' : Imm} {μ μ' : Mu} {L L' : Lens} (hs : Stays w I w' I') (hk : Kept μ L μ' L') {r : Root} {f : Info} (hb : ∀ b, f.b = some b → w'.heap[b]? = w.heap[b]?)
    (h : RR w I μ L r f) : RR w' I' μ' L' r f := by
  cases r with
  | row kk xs => obtain ⟨h1, ⟨us, h2, h3⟩, h4⟩ := h; exact ⟨h1, ⟨us, F2.mono (fun _ _ => CR.mono hs) h2, h3.same hb⟩, h4⟩
  | bx xs => obtain ⟨h1, us, h2, h3⟩ := h; exact ⟨h1, us, F2.mono (fun _ _ => DR.mono hs hk) h2, h3.same hb⟩
  | it s p => obtain ⟨h1, b, h2, h3⟩ := h; exact ⟨h1, b, h2, by rw [hb b h2]; exact h3⟩
  | mp es => obtain ⟨h1, b, as, c, h2, h3, h4⟩ := h; exact ⟨h1, b, as, c, h2, by rw [hb b h2]; exact h3, h4⟩

/-! ### States -/
structure St where
  env : Nat → Option E
  rt : Nm → Option Root
  ep : Nat
  used : Nat → Bool

def St.L (s : St) : Lens := fun ρ => (s.rt ρ).map Root.len

structure Ctx where
  w : World
  I : Imm
  own : Nat → Prop
  n : Nat
  μ0 : Mu
  L0 : Lens
  hI : ∀ b o, I b o → ¬ own b ∧ b < w.heap.size
  hown : ∀ b, own b → b < w.heap.size

def Ctx.mine (x : Ctx) (b : Nat) : Prop := x.own b ∨ x.w.heap.size ≤ b

structure Gr (w w' : World) (S : Nat → Prop) : Prop where
  os : w'.os = w.os
  tape : w'.tape = w.tape
  output : w'.output = w.output
  size : w.heap.size ≤ w'.heap.size
  block : ∀ k, k < w.heap.size → ¬ S k → w'.heap[k]? = w.heap[k]?

def upd {α β : Type} [DecidableEq α] (f : α → β) (a : α) (b : β) : α → β := fun x => if x = a then b else f x
theorem upd_same {α β : Type} [DecidableEq α] (f : α → β) (a : α) (b : β) : upd f a b a = b := by simp [upd]
theorem upd_ne {α β : Type} [DecidableEq α] (f : α → β) {a x : α} (b : β) (h : x ≠ a) : upd f a b x = f x := by simp [upd, h]

theorem Gr.refl (w : World) (S : Nat → Prop) : Gr w w S := ⟨rfl, rfl, rfl, Nat.le_refl _, fun _ _ _ => rfl⟩

structure RelX (x : Ctx) (μ : Mu) (I : Imm) (s : St) (a : Act) (w : World) : Prop where
  defers : a.defers = []
  tsize : a.tmps.size = x.n
  env : ∀ i e, s.env i = some e → ∃ u, a.tmps[i]? = some u ∧ ER w I μ s.L e u
  root : ∀ ρ r, s.rt ρ = some r → ∃ f, μ ρ = some f ∧ RR w I μ s.L r f ∧ ∀ b, f.b = some b → b < w.heap.size ∧ (∀ o, ¬ I b o) ∧ x.mine b
  apart : ∀ ρ ρ' f f' b, s.rt ρ ≠ none → s.rt ρ' ≠ none → μ ρ = some f → μ ρ' = some f' → f.b = some b → f'.b = some b → ρ = ρ'
  fresh : ∀ g c f, μ (g, c) = some f → g < s.ep ∨ (g = s.ep ∧ s.used (c / 100) = true)
  imm0 : ∀ b o, x.I b o → I b o
  immB : ∀ b o, I b o → b < w.heap.size
  immN : ∀ b o, I b o → x.I b o ∨ x.mine b
  gr : Gr x.w w x.own
  kept : Kept x.μ0 x.L0 μ s.L

def Rel (x : Ctx) (s : St) (a : Act) (w : World) : Prop := ∃ μ I, RelX x μ I s a w

/-- One step: what may change, and what is to be shown of it. -/
theorem RelX.master {x : Ctx} {μ : Mu} {I : Imm} {s : St} {a : Act} {w : World} (h : RelX x μ I s a w) {w' : World} {S : Nat → Prop} (hg : Gr w w' S) {μ' : Mu} {I' : Imm} {s' : St} {a' : Act}
    (hS : ∀ k, S k → k < w.heap.size → x.mine k ∧ ∀ o, ¬ I k o)
    (hI : ∀ b o, I b o → I' b o) (hI' : ∀ b o, I' b o → I b o ∨ (b < w'.heap.size ∧ x.mine b))
    (hK : Kept μ s.L μ' s'.L) (hd : a'.defers = a.defers) (ht : a'.tmps.size = a.tmps.size)
    (hen : Stays w I w' I' → ∀ i e, s'.env i = some e → (s.env i = some e ∧ a'.tmps[i]? = a.tmps[i]?) ∨ (∃ u, a'.tmps[i]? = some u ∧ ER w' I' μ' s'.L e u))
    (hrt : Stays w I w' I' → ∀ ρ r, s'.rt ρ = some r → (s.rt ρ = some r ∧ μ' ρ = μ ρ ∧ ∀ f b, μ ρ = some f → f.b = some b → ¬ S b ∧ ∀ o, ¬ I' b o) ∨
      (∃ f, μ' ρ = some f ∧ RR w' I' μ' s'.L r f ∧ ∀ b, f.b = some b → b < w'.heap.size ∧ (∀ o, ¬ I' b o) ∧ x.mine b))
    (hap : ∀ ρ ρ' f f' b, s'.rt ρ ≠ none → s'.rt ρ' ≠ none → μ' ρ = some f → μ' ρ' = some f' → f.b = some b → f'.b = some b → ρ = ρ')
    (hfr : ∀ g c f, μ' (g, c) = some f → g < s'.ep ∨ (g = s'.ep ∧ s'.used (c / 100) = true)) : RelX x μ' I' s' a' w' := by
  have hst : Stays w I w' I' := fun b o hi => ⟨hI b o hi, by
    have hb := h.immB b o hi
    have hn : ¬ S b := fun hs => (hS b hs hb).2 o hi
    simp [World.cell?, hg.block b hb hn]⟩
  have hgr : Gr x.w w' x.own := ⟨hg.os.trans h.gr.os, hg.tape.trans h.gr.tape, hg.output.trans h.gr.output, Nat.le_trans h.gr.size hg.size, fun k hk hn => by
    rw [hg.block k (Nat.lt_of_lt_of_le hk h.gr.size) (fun hs => ?_)]
    · exact h.gr.block k hk hn
    · rcases (hS k hs (Nat.lt_of_lt_of_le hk h.gr.size)).1 with h1 | h1
      · exact hn h1
      · omega⟩
  refine ⟨hd.trans h.defers, ht.trans h.tsize, fun i e he => ?_, fun ρ r hr => ?_, hap, hfr, fun b o hb => hI b o (h.imm0 b o hb), fun b o hb => ?_, fun b o hb => ?_, hgr, h.kept.trans hK⟩
  · rcases hen hst i e he with ⟨h1, h2⟩ | h1
    · obtain ⟨u, hu, hr⟩ := h.env i e h1
      exact ⟨u, h2.trans hu, hr.mono hst hK⟩
    · exact h1
  · rcases hrt hst ρ r hr with ⟨h1, h2, h3⟩ | h1
    · obtain ⟨f, hf, hR, hb⟩ := h.root ρ r h1
      refine ⟨f, h2.trans hf, hR.mono hst hK (fun b hb' => hg.block b (hb b hb').1 (h3 f b hf hb').1), fun b hb' => ⟨Nat.lt_of_lt_of_le (hb b hb').1 hg.size, (h3 f b hf hb').2, (hb b hb').2.2⟩⟩
    · exact h1
  · rcases hI' b o hb with h1 | h1
    · exact Nat.lt_of_lt_of_le (h.immB b o h1) hg.size
    · exact h1.1
  · rcases hI' b o hb with h1 | h1
    · exact h.immN b o h1
    · exact .inr h1.2

end Go.Proofs.YtcgkhljolflenaaGreatW.V
