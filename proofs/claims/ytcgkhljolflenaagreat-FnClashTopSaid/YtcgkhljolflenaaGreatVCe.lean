/- Lists of one's own, bytes, and functions of which it is only said what holds of their answers. No condition but each theorem's own. -/
import Derived.Test.YtcgkhljolflenaaGreatVCd
namespace Go.Proofs.YtcgkhljolflenaaGreatW.V
open Go

/-- Bytes. -/
def cU8 : Cd UInt8 where
  n := 1
  enc := encB
  dec cs := match cs with
    | [.v (.int .u8 n)] => if n = ((UInt8.ofNat n.toNat).toNat : Int) then some (UInt8.ofNat n.toNat) else none
    | _ => none
  len _ := rfl
  rt x := by simp [encB]
  ok cs x h := by
    split at h
    · split at h
      · rename_i n e
        cases h
        unfold encB
        rw [← e]
        exact F2.leRefl _
      · cases h
    · cases h
@[go_sem] theorem cU8_n : cU8.n = 1 := rfl
@[go_sem] theorem cU8_enc (x : UInt8) : cU8.enc x = [.v (.int .u8 x.toNat)] := rfl
@[go_sem] theorem cU8_dec (x : UInt8) : cU8.dec [.v (.int .u8 (x.toNat : Int))] = some x := cU8.rt x
theorem cU8_fun : cU8.enc = encB := rfl
@[go_sem] theorem encB_map (l : List UInt8) : l.map encB = l.map cU8.enc := rfl
@[go_sem] theorem bytesOf_map (l : List UInt8) : bytesOf (l.map cU8.enc) = some l := bytesOf_encB l
@[go_sem] theorem bytesOf_nil : bytesOf [] = some [] := rfl
@[go_sem] theorem bytesOf_cons (n : Int) (l : List (List C)) : bytesOf ([.v (.int .u8 n)] :: l) = match bytesOf l with | some m => some (UInt8.ofNat n.toNat :: m) | none => none := by rw [bytesOf]; rfl
@[go_sem] theorem bytesOf_app (l : List UInt8) (r : List (List C)) : bytesOf (l.map cU8.enc ++ r) = match bytesOf r with | some m => some (l ++ m) | none => none := by
  induction l with
  | nil => simp only [List.map_nil, List.nil_append]; split <;> simp_all
  | cons b l ih =>
    simp only [List.map_cons, List.cons_append, cU8_enc, bytesOf_cons] at ih ⊢
    rw [ih]
    have e : UInt8.ofNat ((b.toNat : Int)).toNat = b := by simp
    cases bytesOf r <;> simp only [e]
attribute [go_sem] List.size_toArray
@[go_sem] theorem mkB_app (a b : List UInt8) : (⟨a.toArray⟩ : ByteArray) ++ ⟨b.toArray⟩ = ⟨(a ++ b).toArray⟩ := by
  apply ByteArray.ext; simp
@[go_sem] theorem mkB_list (a : List UInt8) : (⟨a.toArray⟩ : ByteArray).data.toList = a := rfl

theorem map_len_all {X : Type} (c : Cd X) {k : Nat} (hk : c.n = k) (xs : List X) : ∀ y ∈ xs.map c.enc, y.length = k := fun y hy => by
  obtain ⟨x, _, rfl⟩ := List.mem_map.1 hy
  rw [c.len, hk]

/-- A list of one's own, as what is answered or passed: the j-th root. -/
abbrev oL {X : Type} (j : Nat) (xs : List X) : E := .x (.o (.h (0, j) 0 xs.length xs.length))
abbrev oR {X : Type} (c : Cd X) (xs : List X) : Root := .row c.n (xs.map c.enc)

/-- Three results. -/
def eT3 {X Y Z : Type} (a : CE X) (b : CE Y) (c : CE Z) (ha : ∀ x, ∃ y, a.enc x = .x y) (hb : ∀ x, ∃ y, b.enc x = .x y) (hc : ∀ x, ∃ y, c.enc x = .x y) : CE (X × Y × Z) where
  enc p := .t [asX (a.enc p.1), asX (b.enc p.2.1), asX (c.enc p.2.2)]
  dec e := match e with
    | .t [p, q, r] => match a.dec (.x p), b.dec (.x q), c.dec (.x r) with
      | some x, some y, some z => some (x, y, z)
      | _, _, _ => none
    | _ => none
  rt p := by
    obtain ⟨y, hy⟩ := ha p.1
    obtain ⟨z, hz⟩ := hb p.2.1
    obtain ⟨v, hv⟩ := hc p.2.2
    have h1 := a.rt p.1
    have h2 := b.rt p.2.1
    have h3 := c.rt p.2.2
    rw [hy] at h1; rw [hz] at h2; rw [hv] at h3
    simp only [hy, hz, hv, asX, h1, h2, h3]
  ok e p h := by
    split at h
    · split at h
      · rename_i p' q' r' _ _ _ x y z h1 h2 h3
        cases h
        intro w I μ L u ⟨us, e, hu⟩
        refine ⟨us, e, ?_⟩
        cases hu with
        | cons g1 g2 => cases g2 with
          | cons g3 g4 => cases g4 with
            | cons g5 g6 => cases g6; exact .cons ((a.ok _ _ h1).asX (ha _) w I μ L _ g1) (.cons ((b.ok _ _ h2).asX (hb _) w I μ L _ g3) (.cons ((c.ok _ _ h3).asX (hc _) w I μ L _ g5) .nil))
      · cases h
    · cases h
section
variable {X Y Z : Type} (a : CE X) (b : CE Y) (c : CE Z) (ha : ∀ x, ∃ y, a.enc x = .x y) (hb : ∀ x, ∃ y, b.enc x = .x y) (hc : ∀ x, ∃ y, c.enc x = .x y)
@[go_sem] theorem eT3_enc (p : X × Y × Z) : (eT3 a b c ha hb hc).enc p = .t [asX (a.enc p.1), asX (b.enc p.2.1), asX (c.enc p.2.2)] := rfl
@[go_sem] theorem eT3_dec (p q r : A) : (eT3 a b c ha hb hc).dec (.t [p, q, r]) = match a.dec (.x p), b.dec (.x q), c.dec (.x r) with | some x, some y, some z => some (x, y, z) | _, _, _ => none := rfl
end

section
variable {P : Program} {g : FuncId} {A1 A2 A3 A4 A5 A6 R : Type}
/-- Answers with roots of their own. -/
def FM.g1 (a : CE A1) (r : A1 → E × List (Option Root)) (pre : A1 → Prop) : FM := ⟨[], fun args rin => match args, rin with
  | [e1], [] => match a.dec e1 with
    | some x => some ((r x).1, (r x).2, pre x)
    | none => none
  | _, _ => none⟩
theorem FM.g1_ok {a : CE A1} {r : A1 → E × List (Option Root)} {pre : A1 → Prop} (h : ∀ x, pre x → VFun P g [a.enc x] [] (r x).1 (r x).2) : (FM.g1 a r pre).ok P g := by
  intro args rin res rout p hm hp
  simp only [FM.g1] at hm
  split at hm
  · split at hm
    · rename_i hx; cases hm; exact (h _ hp).weaken (.cons (a.ok _ _ hx) .nil)
    · cases hm
  · cases hm
def FM.g2 (a : CE A1) (b : CE A2) (r : A1 → A2 → E × List (Option Root)) (pre : A1 → A2 → Prop) : FM := ⟨[], fun args rin => match args, rin with
  | [e1, e2], [] => match a.dec e1, b.dec e2 with
    | some x, some y => some ((r x y).1, (r x y).2, pre x y)
    | _, _ => none
  | _, _ => none⟩
theorem FM.g2_ok {a : CE A1} {b : CE A2} {r : A1 → A2 → E × List (Option Root)} {pre : A1 → A2 → Prop} (h : ∀ x y, pre x y → VFun P g [a.enc x, b.enc y] [] (r x y).1 (r x y).2) : (FM.g2 a b r pre).ok P g := by
  intro args rin res rout p hm hp
  simp only [FM.g2] at hm
  split at hm
  · split at hm
    · rename_i hx hy; cases hm; exact (h _ _ hp).weaken (.cons (a.ok _ _ hx) (.cons (b.ok _ _ hy) .nil))
    · cases hm
  · cases hm
def FM.g3 (a : CE A1) (b : CE A2) (c : CE A3) (r : A1 → A2 → A3 → E × List (Option Root)) (pre : A1 → A2 → A3 → Prop) : FM := ⟨[], fun args rin => match args, rin with
  | [e1, e2, e3], [] => match a.dec e1, b.dec e2, c.dec e3 with
    | some x, some y, some z => some ((r x y z).1, (r x y z).2, pre x y z)
    | _, _, _ => none
  | _, _ => none⟩
theorem FM.g3_ok {a : CE A1} {b : CE A2} {c : CE A3} {r : A1 → A2 → A3 → E × List (Option Root)} {pre : A1 → A2 → A3 → Prop} (h : ∀ x y z, pre x y z → VFun P g [a.enc x, b.enc y, c.enc z] [] (r x y z).1 (r x y z).2) : (FM.g3 a b c r pre).ok P g := by
  intro args rin res rout p hm hp
  simp only [FM.g3] at hm
  split at hm
  · split at hm
    · rename_i hx hy hz; cases hm; exact (h _ _ _ hp).weaken (.cons (a.ok _ _ hx) (.cons (b.ok _ _ hy) (.cons (c.ok _ _ hz) .nil)))
    · cases hm
  · cases hm

/-- What is known of a function that writes into a list of one's own that it is given: the list's root is handed over. -/
def FM.mk1 (c : Cd A1) (b : CE A2) (r : R → E) (f : List A1 → A2 → List A1 × R) (pre : List A1 → A2 → Prop) : FM := ⟨[0], fun args rin => match args, rin with
  | [.x (.o (.h (0, 0) 0 n m)), e2], [.row k rows] => match mapO c.dec rows, b.dec e2 with
    | some xs, some y => some (r (f xs y).2, [some (oR c (f xs y).1)], n = m ∧ xs.length = m ∧ k = c.n ∧ rows = xs.map c.enc ∧ pre xs y)
    | _, _ => none
  | _, _ => none⟩
theorem FM.mk1_ok {c : Cd A1} {b : CE A2} {r : R → E} {f : List A1 → A2 → List A1 × R} {pre : List A1 → A2 → Prop} (h : ∀ xs y, pre xs y → VFun P g [oL 0 xs, b.enc y] [some (oR c xs)] (r (f xs y).2) [some (oR c (f xs y).1)]) : (FM.mk1 c b r f pre).ok P g := by
  intro args rin res rout p hm hp
  simp only [FM.mk1] at hm
  split at hm
  · split at hm
    · rename_i hx hy
      cases hm
      obtain ⟨rfl, h2, rfl, h4, h5⟩ := hp
      subst h2
      rw [h4]
      exact (h _ _ h5).weaken (.cons (fun _ _ _ _ _ h => h) (.cons (b.ok _ _ hy) .nil))
    · cases hm
  · cases hm
end

/-- A function that answers what is in roots of its own. -/
theorem VFun_own {P : Program} {f : FuncId} {fn : Func} {c : Code} {n : Nat} {rs : List ResultVar} (hf : P.funcs[f]? = some fn) (hb : fn.body = some c) (hnm : (fn.name == "runtime.NumGoroutine") = false) (hn : fn.ntmps = n) (hrs : fn.results.toList = rs) (H : Hint) (hH : H.ok P) {args : List E} {rin : List Root} {res : E} {rout : List (Option Root)}
    (hlen : args.length ≤ n) (hwf : wfCode H.an n c = true) (h : force (startV args rin) fun l => vcode P H n c l (endV P H rs rin.length (fun e => e = res) rout)) : VFun P f args (rin.map some) res rout :=
  VFun_of hf hb hnm hn hrs H hH hlen hwf h

/-- A function of which it is said what holds of its answer. -/
theorem VFun_rel {P : Program} {f : FuncId} {fn : Func} {c : Code} {n : Nat} {rs : List ResultVar} (hf : P.funcs[f]? = some fn) (hb : fn.body = some c) (hnm : (fn.name == "runtime.NumGoroutine") = false) (hn : fn.ntmps = n) (hrs : fn.results.toList = rs) (H : Hint) (hH : H.ok P) {args : List E} {rin : List Root} {T R : Type} (r : CE R) (val : T → R) (ro : T → List (Option Root)) (post : T → Prop)
    (hlen : args.length ≤ n) (hwf : wfCode H.an n c = true) (h : force (startV args rin) fun l => vcode P H n c l (endR P H rs rin.length fun e rout => ∃ t, post t ∧ r.dec e = some (val t) ∧ rout = ro t)) : ∃ t, post t ∧ VFun P f args (rin.map some) (r.enc (val t)) (ro t) := by
  obtain ⟨ex, lz, hq, hS⟩ := vcode_sound hH c _ _ hwf h
  obtain ⟨e, rout, ⟨t, h1, h2, rfl⟩, h4⟩ := endR_endV hq
  exact ⟨t, h1, VFun_end hf hb hnm hn hrs H (fun e he => by subst he; exact r.ok _ _ h2) hlen h4 hS⟩
theorem VFun_relE {P : Program} {f : FuncId} {fn : Func} {c : Code} {n : Nat} {rs : List ResultVar} (hf : P.funcs[f]? = some fn) (hb : fn.body = some c) (hnm : (fn.name == "runtime.NumGoroutine") = false) (hn : fn.ntmps = n) (hrs : fn.results.toList = rs) (H : Hint) (hH : H.ok P) {args : List E} {rin : List Root} {T : Type} (val : T → E) (ro : T → List (Option Root)) (post : T → Prop)
    (hlen : args.length ≤ n) (hwf : wfCode H.an n c = true) (h : force (startV args rin) fun l => vcode P H n c l (endR P H rs rin.length fun e rout => ∃ t, post t ∧ e = val t ∧ rout = ro t)) : ∃ t, post t ∧ VFun P f args (rin.map some) (val t) (ro t) := by
  obtain ⟨ex, lz, hq, hS⟩ := vcode_sound hH c _ _ hwf h
  obtain ⟨e, rout, ⟨t, h1, h2, rfl⟩, h4⟩ := endR_endV hq
  exact ⟨t, h1, VFun_end hf hb hnm hn hrs H (fun e he => by subst he; subst h2; exact fun _ _ _ _ _ h => h) hlen h4 hS⟩

attribute [go_sem] oL oR FM.g1 FM.g2 FM.g3 FM.mk1 FR.m FR.md

end Go.Proofs.YtcgkhljolflenaaGreatW.V
