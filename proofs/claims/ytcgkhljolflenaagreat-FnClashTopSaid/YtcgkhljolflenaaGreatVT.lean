/- A function's code, computed over plain states. No condition but each theorem's own. -/
import Derived.Test.YtcgkhljolflenaaGreatVS
namespace Go.Proofs.YtcgkhljolflenaaGreatW.V
open Go

/-! ### States as lists -/
def lk {κ : Type} {α : Type _} [DecidableEq κ] : List (κ × α) → κ → Option α
  | [], _ => none
  | (k, v) :: l, q => if q = k then some v else lk l q

def rmv {κ α : Type} [DecidableEq κ] (q : κ) : List (κ × α) → List (κ × α)
  | [] => []
  | (k, v) :: l => if q = k then rmv q l else (k, v) :: rmv q l

theorem lk_rmv {κ α : Type} [DecidableEq κ] (q : κ) : ∀ (l : List (κ × α)) (p : κ), lk (rmv q l) p = if p = q then none else lk l p
  | [], p => by simp [rmv, lk]
  | (k, v) :: l, p => by
    simp only [rmv, lk]
    by_cases h : q = k
    · rw [if_pos h, lk_rmv q l p]
      by_cases hp : p = q
      · rw [if_pos hp, if_pos hp]
      · rw [if_neg hp, if_neg hp, if_neg (by rw [← h]; exact hp)]
    · rw [if_neg h]
      simp only [lk, lk_rmv q l p]
      by_cases hp : p = q
      · subst hp; rw [if_neg h, if_pos rfl, if_pos rfl]
      · rw [if_neg hp, if_neg hp]

structure LS where
  env : List (Nat × E)
  rt : List (Nm × Root)
  ep : Nat

def LS.den (l : LS) (used : Nat → Bool) : St := { env := lk l.env, rt := lk l.rt, ep := l.ep, used }

def LS.put (l : LS) (d : Nat) (e : E) : LS := { l with env := (d, e) :: l.env }
def setR (rt : List (Nm × Root)) : List (Nm × Option Root) → List (Nm × Root)
  | [] => rt
  | (ρ, some r) :: l => setR ((ρ, r) :: rmv ρ rt) l
  | (ρ, none) :: l => setR (rmv ρ rt) l
def LS.app (l : LS) (dst : Option Nat) (val : Option E) (rts : List (Nm × Option Root)) : LS where
  env := match dst, val with
    | some d, some e => (d, e) :: l.env
    | some d, none => rmv d l.env
    | none, _ => l.env
  rt := setR l.rt rts
  ep := l.ep

theorem lk_setR : ∀ (rts : List (Nm × Option Root)) (rt : List (Nm × Root)), lk (setR rt rts) = rts.foldl (fun g p => upd g p.1 p.2) (lk rt)
  | [], rt => rfl
  | (ρ, some r) :: l, rt => by
    simp only [setR, List.foldl_cons]
    rw [lk_setR l]
    congr 1
    funext σ
    simp only [lk, lk_rmv, upd]
    split <;> rfl
  | (ρ, none) :: l, rt => by
    simp only [setR, List.foldl_cons]
    rw [lk_setR l]
    congr 1
    funext σ
    simp only [lk_rmv, upd]

theorem den_app (l : LS) (used : Nat → Bool) (dst : Option Nat) (f : Eff) :
    (l.app dst f.val f.rts).den (match f.new, dst with | true, some d => upd used d true | _, _ => used) = (l.den used).app dst f := by
  unfold LS.den LS.app St.app
  simp only [lk_setR]
  congr 1
  cases dst with
  | none => rfl
  | some d =>
    cases f.val with
    | none => funext i; simp [lk_rmv, upd]
    | some e => funext i; simp [lk, upd]

/-! ### One operation -/
def numE (env : Nat → Option E) (z : Operand) : Option (IntKind × Int) := match evE env z with
  | some e => isI e
  | none => none

/-- What an operation that is no call does; what is to be shown for it. -/
def core (P : Program) (env : Nat → Option E) (rt : Nm → Option Root) (ep : Nat) (o : Oper) : Option Eff := match o.op with
  | .move y => match evE env y with | some e => some ⟨some e, [], false, True⟩ | none => none
  | .assign y => match evE env y with | some e => some ⟨some e, [], false, True⟩ | none => none
  | .pick c y z => match evE env c with
    | some (.x (.o (.c (.v (.bool t))))) => (match pk t (evE env y) (evE env z) with | some e => some ⟨some e, [], false, True⟩ | none => none)
    | _ => none
  | .alloc t => match td P t, o.dst with
    | some d, some q => some ⟨some (.x (.o (.p (ep, 100 * q) 0 0 1))), [((ep, 100 * q), some (.bx [d.zero.map fun u => .c (.v u)]))], true, d.zero.all (·.oneCell') = true⟩
    | _, _ => none
  | .box _ y => match evE env y, o.dst with
    | some (.x y'), some q => some ⟨some (.x (.o (.p (ep, 100 * q) 0 0 1))), [((ep, 100 * q), some (.bx [cellsA y']))], true, True⟩
    | _, _ => none
  | .load t y => match td P t, evE env y with
    | some d, some e => match ldE d rt e with | some z => some ⟨some (.x z), [], false, True⟩ | none => none
    | _, _ => none
  | .store t p y => match td P t, evE env p, evE env y, o.dst with
    | some d, some e1, some (.x ya), none => match stE rt (cellsA ya) e1 with | some (ρ, r') => some ⟨none, [(ρ, some r')], false, (cellsA ya).length = d.size⟩ | none => none
    | _, _, _, _ => none
  | .nilCheck y => match evE env y with | some e => some ⟨some e, [], false, liveP rt e⟩ | none => none
  | .fieldAddr t y fn => match td P t, evE env y with
    | some ⟨.st fs, _, _, _, _⟩, some e => match fs[fn]? with
      | some (off, ft) => match td P ft, addP off e with
        | some df, some e' => some ⟨some e', [], false, liveP rt e ∧ df.size ≠ 0⟩
        | _, _ => none
      | none => none
    | _, _ => none
  | .field t y fn => match td P t, evE env y with
    | some ⟨.st fs, _, _, _, _⟩, some (.x (.a cs)) => match fs[fn]? with
      | some (off, ft) => match td P ft with
        | some df => match partA df off cs with | some z => some ⟨some (.x z), [], false, True⟩ | none => none
        | none => none
      | none => none
    | _, _ => none
  | .extract y i => match evE env y with
    | some (.t vs) => match vs[i]? with | some z => some ⟨some (.x z), [], false, True⟩ | none => none
    | _ => none
  | .binOp op t y z _ => match evE env y, evE env z with
    | some (.x (.o (.c (.v (.bool m))))), some (.x (.o (.c (.v (.bool n))))) => match td P t, op with
      | some ⟨.bool, _, _, _, _⟩, .eql => some ⟨some (sc (.bool (m == n))), [], false, True⟩
      | some ⟨.bool, _, _, _, _⟩, .neq => some ⟨some (sc (.bool (!(m == n)))), [], false, True⟩
      | _, _ => none
    | some (.x (.o (.c (.v m)))), some (.x (.o (.c (.v n)))) => match binV op m n with | some (v, ob) => some ⟨some (sc v), [], false, ob⟩ | none => none
    | some (.x (.a cs)), some (.x (.a ds)) => match unDs cs, unDs ds, td P t with
      | some us, some vs, some d => match eqT P 8 t us vs, op with
        | some r, .eql => some ⟨some (sc (.bool r)), [], false, d.agg = true ∧ d.eqok = true⟩
        | some r, .neq => some ⟨some (sc (.bool (!r))), [], false, d.agg = true ∧ d.eqok = true⟩
        | _, _ => none
      | _, _, _ => none
    | _, _ => none
  | .unOp op _ y => match evE env y with
    | some (.x (.o (.c (.v m)))) => match unV op m with | some v => some ⟨some (sc v), [], false, True⟩ | none => none
    | _ => none
  | .indexAddr t y z => match td P t, evE env y, numE env z with
    | some ⟨.slice et, _, _, _, _⟩, some e, some (_, i) => match td P et with
      | some de => match ixE rt de.size i e with | some (e', ob) => some ⟨some e', [], false, ob⟩ | none => none
      | none => none
    | some ⟨.arr n et, _, _, _, _⟩, some e, some (_, i) => match td P et with
      | some de => match addP (i.toNat * de.size) e with | some e' => some ⟨some e', [], false, liveP rt e ∧ 0 ≤ i ∧ i < n⟩ | none => none
      | none => none
    | _, _, _ => none
  | .index t y z => match td P t, evE env y, numE env z with
    | some ⟨.str, _, _, _, _⟩, some (.x (.o (.c (.v (.string b))))), some (_, i) => match b.data.toList[i.toNat]? with
      | some c => some ⟨some (sc (.int .u8 c.toNat)), [], false, 0 ≤ i⟩
      | none => none
    | some ⟨.arr n et, _, _, _, _⟩, some (.x (.a cs)), some (_, i) => match td P et with
      | some de => match partA de (i.toNat * de.size) cs with | some v => some ⟨some (.x v), [], false, 0 ≤ i ∧ i < n⟩ | none => none
      | none => none
    | _, _, _ => none
  | .slice t y lo hi none => match td P t, evE env y with
    | some ⟨.str, _, _, _, _⟩, some (.x (.o (.c (.v (.string b))))) => match bndE env 0 lo, bndE env b.size hi with
      | some l, some r => some ⟨some (sc (.string (b.extract l.toNat r.toNat))), [], false, 0 ≤ l ∧ l ≤ r ∧ r ≤ b.size⟩
      | _, _ => none
    | some ⟨.slice et, _, _, _, _⟩, some e => match td P et, lenE rt e with
      | some de, some n => match bndE env 0 lo, bndE env n hi with
        | some l, some r => match slE rt de.size l r e with | some (e', ob) => some ⟨some e', [], false, ob⟩ | none => none
        | _, _ => none
      | _, _ => none
    | _, _ => none
  | .convert src dst y => match td P src, td P dst, evE env y with
    | some _, some ⟨.int k', _, _, _, _⟩, some (.x (.o (.c (.v (.int _ n))))) => some ⟨some (sc (.int k' (k'.wrap n))), [], false, True⟩
    | some ⟨.slice et, _, _, _, _⟩, some ⟨.str, _, _, _, _⟩, some e => match td P et, viewE rt e with
      | some ⟨.int .u8, _, _, _, _⟩, some xs => match bytesOf xs with | some bs => some ⟨some (sc (.string ⟨bs.toArray⟩)), [], false, True⟩ | none => none
      | _, _ => none
    | some _, some ⟨.str, _, _, _, _⟩, some (.x (.o (.c (.v (.string b))))) => some ⟨some (sc (.string b)), [], false, True⟩
    | some _, some ⟨.slice et, _, _, _, _⟩, some (.x (.o (.c (.v (.string b))))) => match td P et with
      | some ⟨.int .u8, _, _, _, _⟩ => some ⟨some (.x (.o (.c (.s (b.data.toList.map encB))))), [], false, True⟩
      | _ => none
    | _, _, _ => none
  | .build t ps => match td P t with
    | some ⟨.st fs, sz, by', zr, ok⟩ => match placesT P fs, evParts env ps.toList with
      | some pl, some r => match fillD (pl[·]?) (zeroD ⟨.st fs, sz, by', zr, ok⟩) r with | some ds => some ⟨some (.x (.a ds)), [], false, zr.all (·.oneCell') = true⟩ | none => none
      | _, _ => none
    | some ⟨.arr n et, sz, by', zr, ok⟩ => match td P et, evParts env ps.toList with
      | some de, some r => match fillD (fun i => some (i * de.size, de.size)) (zeroD ⟨.arr n et, sz, by', zr, ok⟩) r with | some ds => some ⟨some (.x (.a ds)), [], false, zr.all (·.oneCell') = true⟩ | none => none
      | _, _ => none
    | _ => none
  | .buildSlice t n ps => match td P t, o.dst with
    | some ⟨.slice e, _, _, _, _⟩, some q => match td P e, evParts env ps.toList with
      | some de, some r => match setRows de.size (List.replicate n (zeroD de)) r with
        | some rows => match shutR rt rows with
          | some (zs, ρs) => some ⟨some (.x (.o (.h (ep, 100 * q) 0 n n))), ρs.map (fun ρ => (ρ, none)) ++ [((ep, 100 * q), some (.row de.size zs))], true,
              de.zero.length = de.size ∧ de.zero.all (·.oneCell') = true ∧ n * de.size ≤ 16777216 ∧ n ≤ 16777216⟩
          | none => some ⟨some (.x (.o (.h (ep, 100 * q) 0 n n))), [((ep, 100 * q), some (.bx rows))], true,
              de.zero.length = de.size ∧ de.zero.all (·.oneCell') = true ∧ n * de.size ≤ 16777216 ∧ n ≤ 16777216⟩
        | none => none
      | _, _ => none
    | _, _ => none
  | .makeSlice t y z => match td P t, o.dst, numE env y, numE env z with
    | some ⟨.slice e, _, _, _, _⟩, some q, some (_, l), some (_, c) => match td P e with
      | some de => some ⟨some (.x (.o (.h (ep, 100 * q) 0 l.toNat l.toNat))), [((ep, 100 * q), some (.row de.size (List.replicate l.toNat (de.zero.map C.v))))], true,
          de.zero.length = de.size ∧ de.zero.all (·.oneCell') = true ∧ 0 ≤ l ∧ l ≤ c ∧ (de.bytes : Int) * c ≤ 281474976710656 ∧ c ≤ 9223372036854775807⟩
      | none => none
    | _, _, _, _ => none
  | .makeFunc fn first cap => match toVs env first.toList, toVs env cap.toList with
    | some fs, some cs => some ⟨some (sc (.func fn fs.toArray cs.toArray)), [], false, True⟩
    | _, _ => none
  | .range t y => match td P t, evE env y, o.dst with
    | some ⟨.str, _, _, _, _⟩, some (.x (.o (.c (.v (.string b))))), some q => some ⟨some (.x (.o (.p (ep, 100 * q) 0 0 1))), [((ep, 100 * q), some (.it b 0))], true, True⟩
    | _, _, _ => none
  | .next y true => match evE env y with
    | some (.x (.o (.p ρ 0 0 1))) => match rt ρ with
      | some (.it b p) => match nextV b p with
        | some (c, n) => some ⟨some (.t [.o (.c (.v (.bool true))), .o (.c (.v (.int .i64 p))), .o (.c (.v (.int .i32 c)))]), [(ρ, some (.it b (p + n)))], false, True⟩
        | none => some ⟨some (.t [.o (.c (.v (.bool false)))]), [], false, True⟩
      | _ => none
    | _ => none
  | .makeMap _ none => match o.dst with
    | some q => some ⟨some (.x (.o (.p (ep, 100 * q) 0 0 0))), [((ep, 100 * q), some (.mp []))], true, True⟩
    | none => none
  | .lookup t y z cm => match td P t, evE env y, evE env z with
    | some ⟨.map kt et, _, _, _, _⟩, some (.x (.o (.p ρ 0 0 0))), some ez => match rt ρ, td P kt, toV ez with
      | some (.mp es), some dk, some kv => match kc dk.agg kv with
        | some ks => match eqT P 8 kt ks ks, mfind P kt dk.agg ks es with
          | some _, some (some (_, v)) => match ofV v with
            | some (.x y') => some ⟨some (lkE true y' cm), [], false, True⟩
            | _ => none
          | some _, some none => match zvE P et with
            | some (.x y') => some ⟨some (lkE false y' cm), [], false, True⟩
            | _ => none
          | _, _ => none
        | none => none
      | _, _, _ => none
    | _, _, _ => none
  | .mapUpdate t y z u => match td P t, evE env y, evE env z, evE env u with
    | some ⟨.map kt _, _, _, _, _⟩, some (.x (.o (.p ρ 0 0 0))), some ez, some eu => match rt ρ, td P kt, toV ez, toV eu, o.dst with
      | some (.mp es), some dk, some kv, some uv, none => match kc dk.agg kv with
        | some ks => match eqT P 8 kt ks ks, mfind P kt dk.agg ks es with
          | some _, some none => some ⟨none, [(ρ, some (.mp (es ++ [(kv, uv)])))], false, True⟩
          | _, _ => none
        | none => none
      | _, _, _, _, _ => none
    | _, _, _, _ => none
  | .call { callee := .builtin .len, args := ⟨[y]⟩, argTypes := ⟨t :: _⟩ } => match td P t, evE env y with
    | some ⟨.str, _, _, _, _⟩, some (.x (.o (.c (.v (.string b))))) => some ⟨some (sc (.int .i64 b.size)), [], false, True⟩
    | some ⟨.slice _, _, _, _, _⟩, some e => match lenE rt e with | some n => some ⟨some (sc (.int .i64 n)), [], false, True⟩ | none => none
    | _, _ => none
  | .call { callee := .builtin .append, args := ⟨[y, z]⟩, argTypes := ⟨[t, t']⟩ } => match td P t, td P t', evE env y, evE env z with
    | some ⟨.slice e, _, _, _, _⟩, some ⟨k2, _, _, _, _⟩, some ey, some ez => match td P e, (match k2 with | .slice _ => some false | .str => some true | _ => none) with
      | some de, some str => match srcE rt str ez with
        | some ys => match ey with
          | .x (.o (.h ρ 0 n m)) => match rt ρ with
            | some (.row kk xs) => some ⟨some (.x (.o (.h ρ 0 (n + ys.length) (n + ys.length)))), [(ρ, some (.row kk (xs ++ ys)))], false,
                n = m ∧ xs.length = n ∧ kk = de.size ∧ de.zero.length = de.size ∧ (∀ y ∈ ys, y.length = de.size) ∧ (str = true → de.size = 1) ∧ (n + ys.length) * de.bytes ≤ 140737488355328 ∧ n + ys.length ≤ 9223372036854775807⟩
            | _ => none
          | .x (.o (.c (.v (.slice none 0 0)))) => match o.dst with
            | some q => some ⟨some (.x (.o (.h (ep, 100 * q) 0 ys.length ys.length))), [((ep, 100 * q), some (.row de.size ys))], true,
                de.zero.length = de.size ∧ (∀ y ∈ ys, y.length = de.size) ∧ (str = true → de.size = 1) ∧ ys.length * de.bytes ≤ 140737488355328 ∧ ys.length ≤ 9223372036854775807⟩
            | none => none
          | _ => none
        | none => none
      | _, _ => none
    | _, _, _, _ => none
  | .call { callee := .builtin .copy, args := ⟨[y, z]⟩, argTypes := ⟨[t, _]⟩ } => match td P t, evE env y, evE env z with
    | some ⟨.slice e, _, _, _, _⟩, some (.x (.o (.h ρ 0 n m))), some ez => match td P e, rt ρ, viewE rt ez with
      | some de, some (.row kk xs), some ys => some ⟨some (sc (.int .i64 n)), [(ρ, some (.row kk ys))], false, n = m ∧ xs.length = n ∧ kk = de.size ∧ (∀ y ∈ ys, y.length = de.size) ∧ ys.length = n⟩
      | _, _, _ => none
    | _, _, _ => none
  | .call { callee := .builtin .min, args := ⟨[y, z]⟩, .. } => match numE env y, numE env z with
    | some (k, m), some (_, n) => some ⟨some (sc (.int k (min m n))), [], false, True⟩
    | _, _ => none
  | .call { callee := .builtin .max, args := ⟨[y, z]⟩, .. } => match numE env y, numE env z with
    | some (k, m), some (_, n) => some ⟨some (sc (.int k (max m n))), [], false, True⟩
    | _, _ => none
  | _ => none

theorem numE_spec {env : Nat → Option E} {z : Operand} {k : IntKind} {n : Int} (h : numE env z = some (k, n)) : ∃ e, evE env z = some e ∧ isI e = some (k, n) := by
  unfold numE at h
  split at h
  · rename_i e he; exact ⟨e, he, h⟩
  · cases h

theorem isI_sc {e : E} {k : IntKind} {n : Int} (h : isI e = some (k, n)) : e = .x (.o (.c (.v (.int k n)))) := isI_spec h

theorem core_does {P : Program} {env : Nat → Option E} {rt : Nm → Option Root} {ep : Nat} {o : Oper} {f : Eff} (h : core P env rt ep o = some f) (hob : f.ob) : Does P env rt ep o f := by
  unfold core at h
  split at h
  · rename_i y ho
    split at h
    · rename_i e he; cases h; exact .move (.inl ho) he
    · cases h
  · rename_i y ho
    split at h
    · rename_i e he; cases h; exact .move (.inr ho) he
    · cases h
  · rename_i c y z ho
    split at h
    · rename_i t hc
      split at h
      · rename_i e he; cases h; exact .pick ho hc rfl he
      · cases h
    · cases h
  · rename_i t ho
    split at h
    · rename_i d q ht hdst; cases h; exact .alloc ho hdst ht hob
    · cases h
  · rename_i t y ho
    split at h
    · rename_i y' q he hdst; cases h; exact .box ho hdst he rfl
    · cases h
  · rename_i t y ho
    split at h
    · rename_i d e ht he
      split at h
      · rename_i z hz; cases h; exact .load ho he ht hz
      · cases h
    · cases h
  · rename_i t p y ho
    split at h
    · rename_i d e1 ya ht hp hy hdst
      split at h
      · rename_i ρ r' hs; cases h; exact .store ho hdst hp hy rfl ht hob hs
      · cases h
    · cases h
  · rename_i y ho
    split at h
    · rename_i e he; cases h; exact .nilCheck ho he hob
    · cases h
  · rename_i t y fn ho
    split at h
    · rename_i fs _ _ _ _ e ht he
      split at h
      · rename_i off ft hf
        split at h
        · rename_i df e' hft ha; cases h; exact .fieldAddr ho he hob.1 ht rfl hf hft hob.2 ha
        · cases h
      · cases h
    · cases h
  · rename_i t y fn ho
    split at h
    · rename_i fs _ _ _ _ cs ht he
      split at h
      · rename_i off ft hf
        split at h
        · rename_i df hft
          split at h
          · rename_i z hz; cases h; exact .field ho he ht rfl hf hft hz
          · cases h
        · cases h
      · cases h
    · cases h
  · rename_i y i ho
    split at h
    · rename_i vs he
      split at h
      · rename_i z hz; cases h; exact .extract ho he hz
      · cases h
    · cases h
  · rename_i op t y z u ho
    split at h
    · rename_i m n hy hz
      split at h
      · rename_i ht; cases h; exact .binB ho (.inl rfl) ht rfl hy hz
      · rename_i ht; cases h; exact .binB ho (.inr rfl) ht rfl hy hz
      · cases h
    · rename_i m n _ hy hz
      split at h
      · rename_i v ob hb; cases h; exact .bin ho hy hz hb hob
      · cases h
    · rename_i cs ds hy hz
      split at h
      · rename_i us vs d hu hv ht
        split at h
        · rename_i r hr; cases h; exact .eqSt ho (.inl rfl) hy hz hu hv ht hob.1 hob.2 (by omega) hr
        · rename_i r hr; cases h; exact .eqSt ho (.inr rfl) hy hz hu hv ht hob.1 hob.2 (by omega) hr
        · cases h
      · cases h
    · cases h
  · rename_i op t y ho
    split at h
    · rename_i m hy
      split at h
      · rename_i v hb; cases h; exact .un ho hy hb
      · cases h
    · cases h
  · rename_i t y z ho
    split at h
    · rename_i et _ _ _ _ e k i ht he hi
      obtain ⟨ei, hei, hii⟩ := numE_spec hi
      split at h
      · rename_i de hte
        split at h
        · rename_i e' ob hx; cases h; exact .indexAddr ho ht rfl hte he hei hii hx hob
        · cases h
      · cases h
    · rename_i n et _ _ _ _ e k i ht he hi
      obtain ⟨ei, hei, hii⟩ := numE_spec hi
      split at h
      · rename_i de hte
        split at h
        · rename_i e' hx; cases h; exact .indexAddrArr ho ht rfl hte he hob.1 hei hii hx hob.2.1 hob.2.2
        · cases h
      · cases h
    · cases h
  · rename_i t y z ho
    split at h
    · rename_i b k i ht he hi
      obtain ⟨ei, hei, hii⟩ := numE_spec hi
      split at h
      · rename_i c hc; cases h; exact .indexStr ho ht rfl he hei hii hob hc
      · cases h
    · rename_i n et _ _ _ _ cs k i ht he hi
      obtain ⟨ei, hei, hii⟩ := numE_spec hi
      split at h
      · rename_i de hte
        split at h
        · rename_i v hv; cases h; exact .indexArr ho ht rfl hte he hei hii hob.1 hob.2 hv
        · cases h
      · cases h
    · cases h
  · rename_i t y lo hi ho
    split at h
    · rename_i b ht he
      split at h
      · rename_i l r hl hr; cases h; exact .sliceStr ho ht rfl he hl hr hob.1 hob.2.1 hob.2.2
      · cases h
    · rename_i et _ _ _ _ e ht he
      split at h
      · rename_i de n hte hn
        split at h
        · rename_i l r hl hr
          split at h
          · rename_i e' ob hs; cases h; exact .slice ho ht rfl hte he hn hl hr hs hob
          · cases h
        · cases h
      · cases h
    · cases h
  · rename_i src dst y ho
    split at h
    · rename_i d1 k' _ _ _ _ k n h1 h2 he; cases h; exact .convInt ho h1 h2 rfl he
    · rename_i et _ _ _ _ _ _ _ _ e h1 h2 he
      split at h
      · rename_i xs h3 hv
        split at h
        · rename_i bs hb; cases h; exact .convBytes ho h1 rfl h3 rfl h2 rfl he hv hb
        · cases h
      · cases h
    · rename_i d1 _ _ _ _ b _ h1 h2 he; cases h; exact .convStr ho h1 h2 rfl he
    · rename_i d1 et _ _ _ _ b h1 h2 he
      split at h
      · rename_i h3; cases h; exact .convToBytes ho h1 h2 rfl h3 rfl he
      · cases h
    · cases h
  · rename_i t ps ho
    split at h
    · rename_i fs sz by' zr ok ht
      split at h
      · rename_i pl r hpl hr
        split at h
        · rename_i ds hf; cases h; exact .buildSt ho ht rfl hob hpl hr hf
        · cases h
      · cases h
    · rename_i n et sz by' zr ok ht
      split at h
      · rename_i de r hte hr
        split at h
        · rename_i ds hf; cases h; exact .buildArr ho ht rfl hte hob hr hf
        · cases h
      · cases h
    · cases h
  · rename_i t n ps ho
    split at h
    · rename_i e _ _ _ _ q ht hdst
      split at h
      · rename_i de r hte hr
        split at h
        · rename_i rows hrows
          split at h
          · rename_i zs ρs hs; cases h; exact .buildSlice ho hdst ht rfl hte hob.1 hob.2.1 hob.2.2.1 hob.2.2.2 hr hrows hs
          · cases h; exact .buildSliceP ho hdst ht rfl hte hob.1 hob.2.1 hob.2.2.1 hob.2.2.2 hr hrows
        · cases h
      · cases h
    · cases h
  · rename_i t y z ho
    split at h
    · rename_i e _ _ _ _ q k1 l k2 c ht hdst hy hz
      obtain ⟨ey, hey, hl⟩ := numE_spec hy
      obtain ⟨ez, hez, hc⟩ := numE_spec hz
      split at h
      · rename_i de hte; cases h; exact .makeSlice ho hdst ht rfl hte hob.1 hob.2.1 hey hez hl hc hob.2.2.1 hob.2.2.2.1 hob.2.2.2.2.1 hob.2.2.2.2.2
      · cases h
    · cases h
  · rename_i fn first cap ho
    split at h
    · rename_i fs cs hf hc; cases h; exact .makeFunc ho hf hc
    · cases h
  · rename_i t y ho
    split at h
    · rename_i b q ht he hdst; cases h; exact .range ho hdst ht rfl he
    · cases h
  · rename_i y ho
    split at h
    · rename_i ρ he
      split at h
      · rename_i b p hr
        split at h
        · rename_i c n hn; cases h; exact .next ho he hr (by rw [hn])
        · rename_i hn; cases h; exact .next ho he hr (by rw [hn])
      · cases h
    · cases h
  · rename_i t ho
    split at h
    · rename_i q hdst; cases h; exact .makeMap ho hdst
    · cases h
  · rename_i t y z cm ho
    split at h
    · rename_i kt et _ _ _ _ ρ ez ht he hz
      split at h
      · rename_i es dk kv hr hkt hkv
        split at h
        · rename_i ks hks
          split at h
          · rename_i b j v hv hm
            split at h
            · rename_i y' hy; cases h; exact .lookup (r := some (j, v)) ho ht rfl hkt he hr hz hkv hks hv hm hy
            · cases h
          · rename_i b hv hm
            split at h
            · rename_i y' hy; cases h; exact .lookup (r := none) ho ht rfl hkt he hr hz hkv hks hv hm hy
            · cases h
          · cases h
        · cases h
      · cases h
    · cases h
  · rename_i t y z u ho
    split at h
    · rename_i kt et _ _ _ _ ρ ez eu ht he hz hu
      split at h
      · rename_i es dk kv uv hr hkt hkv huv hdst
        split at h
        · rename_i ks hks
          split at h
          · rename_i b hv hm; cases h; exact .mapUpdate ho hdst ht rfl hkt he hr hz hkv hks hv hm hu huv
          · cases h
        · cases h
      · cases h
    · cases h
  · rename_i y t ts ho
    split at h
    · rename_i b ht he; cases h; exact .lenStr ho rfl ht rfl he
    · rename_i et _ _ _ _ e ht he
      split at h
      · rename_i n hn; cases h; exact .len ho rfl ht rfl he hn
      · cases h
    · cases h
  · rename_i y z t t' ho
    split at h
    · rename_i e _ _ _ _ k2 _ _ _ _ ey ez ht ht' he hz
      split at h
      · rename_i de str hte hstr
        have hk' : (str = false ∧ ∃ e', k2 = .slice e') ∨ (str = true ∧ k2 = .str) := by
          split at hstr
          · cases hstr; exact .inl ⟨rfl, _, rfl⟩
          · cases hstr; exact .inr ⟨rfl, rfl⟩
          · cases hstr
        split at h
        · rename_i ys hv
          split at h
          · rename_i ρ n m
            split at h
            · rename_i kk xs hr
              cases h
              obtain ⟨rfl, h1, h2, h3, h4, h5, h6, h7⟩ := hob
              exact .append ho ht rfl ht' hk' hte h3 he hr h1 h2 hz hv h4 h5 h6 (by simpa [maxLen] using h7)
            · cases h
          · split at h
            · rename_i q hdst
              cases h
              obtain ⟨h3, h4, h5, h6, h7⟩ := hob
              exact .appendNil ho hdst ht rfl ht' hk' hte h3 he hz hv h4 h5 h6 (by simpa [maxLen] using h7)
            · cases h
          · cases h
        · cases h
      · cases h
    · cases h
  · rename_i y z t t' ho
    split at h
    · rename_i e _ _ _ _ ρ n m ez ht he hz
      split at h
      · rename_i de kk xs ys hte hr hv
        cases h
        obtain ⟨rfl, h1, h2, h3, h4⟩ := hob
        exact .copy ho ht rfl hte he hr h1 h2 hz hv h3 h4
      · cases h
    · cases h
  · rename_i y z ts ho
    split at h
    · rename_i k m l n hy hz
      obtain ⟨ey, hey, hl⟩ := numE_spec hy
      obtain ⟨ez, hez, hc⟩ := numE_spec hz
      cases h
      exact .min ho (by rw [hey, isI_sc hl]; rfl) (by rw [hez, isI_sc hc]; rfl)
    · cases h
  · rename_i y z ts ho
    split at h
    · rename_i k m l n hy hz
      obtain ⟨ey, hey, hl⟩ := numE_spec hy
      obtain ⟨ez, hez, hc⟩ := numE_spec hz
      cases h
      exact .max ho (by rw [hey, isI_sc hl]; rfl) (by rw [hez, isI_sc hc]; rfl)
    · cases h
  · cases h

end Go.Proofs.YtcgkhljolflenaaGreatW.V
