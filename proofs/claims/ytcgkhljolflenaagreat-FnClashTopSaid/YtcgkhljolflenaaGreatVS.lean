/- What an operation does, as one relation. No condition but each theorem's own. -/
import Derived.Test.YtcgkhljolflenaaGreatVMp
namespace Go.Proofs.YtcgkhljolflenaaGreatW.V
open Go

/-- The operation, in these slots and roots, has this effect. -/
inductive Does (P : Program) (env : Nat → Option E) (rt : Nm → Option Root) (ep : Nat) (o : Oper) : Eff → Prop
  | move {y : Operand} {e : E} {ob : Prop} (ho : o.op = .move y ∨ o.op = .assign y) (he : evE env y = some e) : Does P env rt ep o ⟨some e, [], false, ob⟩
  | pick {c y z : Operand} {t : Bool} {ec e : E} {ob : Prop} (ho : o.op = .pick c y z) (hc : evE env c = some ec) (hb : isB ec = some t) (he : pk t (evE env y) (evE env z) = some e) : Does P env rt ep o ⟨some e, [], false, ob⟩
  | alloc {t : TypeId} {q : Nat} {d : TD} {ob : Prop} (ho : o.op = .alloc t) (hdst : o.dst = some q) (ht : td P t = some d) (hz : d.zero.all (·.oneCell') = true) :
      Does P env rt ep o ⟨some (.x (.o (.p (ep, 100 * q) 0 0 1))), [((ep, 100 * q), some (.bx [d.zero.map fun u => .c (.v u)]))], true, ob⟩
  | box {t : TypeId} {y : Operand} {q : Nat} {e : E} {y' : A} {ob : Prop} (ho : o.op = .box t y) (hdst : o.dst = some q) (he : evE env y = some e) (hy : asA e = some y') :
      Does P env rt ep o ⟨some (.x (.o (.p (ep, 100 * q) 0 0 1))), [((ep, 100 * q), some (.bx [cellsA y']))], true, ob⟩
  | load {t : TypeId} {y : Operand} {e : E} {d : TD} {z : A} {ob : Prop} (ho : o.op = .load t y) (he : evE env y = some e) (ht : td P t = some d) (hz : ldE d rt e = some z) : Does P env rt ep o ⟨some (.x z), [], false, ob⟩
  | store {t : TypeId} {p y : Operand} {e1 e2 : E} {ya : A} {d : TD} {ρ : Nm} {r' : Root} {ob : Prop} (ho : o.op = .store t p y) (hdst : o.dst = none) (hp : evE env p = some e1) (hy : evE env y = some e2) (hya : asA e2 = some ya)
      (ht : td P t = some d) (hsz : (cellsA ya).length = d.size) (hs : stE rt (cellsA ya) e1 = some (ρ, r')) : Does P env rt ep o ⟨none, [(ρ, some r')], false, ob⟩
  | nilCheck {y : Operand} {e : E} {ob : Prop} (ho : o.op = .nilCheck y) (he : evE env y = some e) (hl : liveP rt e) : Does P env rt ep o ⟨some e, [], false, ob⟩
  | fieldAddr {t : TypeId} {y : Operand} {fn : Nat} {e e' : E} {d df : TD} {fs : List (Nat × TypeId)} {off ft : Nat} {ob : Prop} (ho : o.op = .fieldAddr t y fn) (he : evE env y = some e) (hl : liveP rt e) (ht : td P t = some d) (hk : d.k = .st fs)
      (hf : fs[fn]? = some (off, ft)) (hft : td P ft = some df) (hz : df.size ≠ 0) (ha : addP off e = some e') : Does P env rt ep o ⟨some e', [], false, ob⟩
  | field {t : TypeId} {y : Operand} {fn : Nat} {cs : List D} {d df : TD} {fs : List (Nat × TypeId)} {off ft : Nat} {z : A} {ob : Prop} (ho : o.op = .field t y fn) (he : evE env y = some (.x (.a cs))) (ht : td P t = some d) (hk : d.k = .st fs)
      (hf : fs[fn]? = some (off, ft)) (hft : td P ft = some df) (hz : partA df off cs = some z) : Does P env rt ep o ⟨some (.x z), [], false, ob⟩
  | extract {y : Operand} {i : Nat} {vs : List A} {z : A} {ob : Prop} (ho : o.op = .extract y i) (he : evE env y = some (.t vs)) (hz : vs[i]? = some z) : Does P env rt ep o ⟨some (.x z), [], false, ob⟩
  | bin {op : BinOp} {t u : TypeId} {y z : Operand} {m n v : Value} {ob ob' : Prop} (ho : o.op = .binOp op t y z u) (hy : evE env y = some (sc m)) (hz : evE env z = some (sc n)) (hb : binV op m n = some (v, ob)) (hob : ob) : Does P env rt ep o ⟨some (sc v), [], false, ob'⟩
  | binB {op : BinOp} {t u : TypeId} {y z : Operand} {m n : Bool} {d : TD} {ob : Prop} (ho : o.op = .binOp op t y z u) (hop : op = .eql ∨ op = .neq) (ht : td P t = some d) (hk : d.k = .bool) (hy : evE env y = some (sc (.bool m))) (hz : evE env z = some (sc (.bool n))) :
      Does P env rt ep o ⟨some (sc (.bool (if op = .eql then m == n else !(m == n)))), [], false, ob⟩
  | eqSt {op : BinOp} {t u : TypeId} {y z : Operand} {cs ds : List D} {us vs : List Value} {d : TD} {n : Nat} {r : Bool} {ob : Prop} (ho : o.op = .binOp op t y z u) (hop : op = .eql ∨ op = .neq) (hy : evE env y = some (.x (.a cs))) (hz : evE env z = some (.x (.a ds)))
      (hu : unDs cs = some us) (hv : unDs ds = some vs) (ht : td P t = some d) (ha : d.agg = true) (hok : d.eqok = true) (hn : n ≤ 10000) (hr : eqT P n t us vs = some r) : Does P env rt ep o ⟨some (sc (.bool (if op = .eql then r else !r))), [], false, ob⟩
  | un {op : UnOp} {t : TypeId} {y : Operand} {m v : Value} {ob : Prop} (ho : o.op = .unOp op t y) (hy : evE env y = some (sc m)) (hb : unV op m = some v) : Does P env rt ep o ⟨some (sc v), [], false, ob⟩
  | len {y : Operand} {ts : Array TypeId} {t : TypeId} {d : TD} {et : TypeId} {e : E} {n : Nat} {ob : Prop} (ho : o.op = .call { callee := .builtin .len, args := #[y], argTypes := ts }) (hts : ts[0]? = some t) (ht : td P t = some d) (hk : d.k = .slice et) (he : evE env y = some e) (hn : lenE rt e = some n) :
      Does P env rt ep o ⟨some (sc (.int .i64 n)), [], false, ob⟩
  | lenStr {y : Operand} {ts : Array TypeId} {t : TypeId} {d : TD} {b : ByteArray} {ob : Prop} (ho : o.op = .call { callee := .builtin .len, args := #[y], argTypes := ts }) (hts : ts[0]? = some t) (ht : td P t = some d) (hk : d.k = .str) (he : evE env y = some (sc (.string b))) :
      Does P env rt ep o ⟨some (sc (.int .i64 b.size)), [], false, ob⟩
  | indexAddr {t et : TypeId} {y z : Operand} {d de : TD} {e ei : E} {ik : IntKind} {i : Int} {e' : E} {ob ob' : Prop} (ho : o.op = .indexAddr t y z) (ht : td P t = some d) (hk : d.k = .slice et) (hte : td P et = some de) (he : evE env y = some e) (hi : evE env z = some ei)
      (hii : isI ei = some (ik, i)) (hx : ixE rt de.size i e = some (e', ob)) (hob : ob) : Does P env rt ep o ⟨some e', [], false, ob'⟩
  | indexAddrArr {t et : TypeId} {y z : Operand} {n : Nat} {d de : TD} {e ei : E} {ik : IntKind} {i : Int} {e' : E} {ob : Prop} (ho : o.op = .indexAddr t y z) (ht : td P t = some d) (hk : d.k = .arr n et) (hte : td P et = some de) (he : evE env y = some e) (hl : liveP rt e)
      (hi : evE env z = some ei) (hii : isI ei = some (ik, i)) (hx : addP (i.toNat * de.size) e = some e') (h0 : 0 ≤ i) (h1 : i < n) : Does P env rt ep o ⟨some e', [], false, ob⟩
  | indexStr {t : TypeId} {y z : Operand} {d : TD} {b : ByteArray} {ei : E} {ik : IntKind} {i : Int} {c : UInt8} {ob : Prop} (ho : o.op = .index t y z) (ht : td P t = some d) (hk : d.k = .str) (he : evE env y = some (sc (.string b))) (hi : evE env z = some ei) (hii : isI ei = some (ik, i)) (h0 : 0 ≤ i)
      (hc : b.data.toList[i.toNat]? = some c) : Does P env rt ep o ⟨some (sc (.int .u8 c.toNat)), [], false, ob⟩
  | indexArr {t et : TypeId} {y z : Operand} {n : Nat} {d de : TD} {cs : List D} {ei : E} {ik : IntKind} {i : Int} {v : A} {ob : Prop} (ho : o.op = .index t y z) (ht : td P t = some d) (hk : d.k = .arr n et) (hte : td P et = some de) (he : evE env y = some (.x (.a cs))) (hi : evE env z = some ei)
      (hii : isI ei = some (ik, i)) (h0 : 0 ≤ i) (h1 : i < n) (hv : partA de (i.toNat * de.size) cs = some v) : Does P env rt ep o ⟨some (.x v), [], false, ob⟩
  | sliceStr {t : TypeId} {y : Operand} {lo hi : Option Operand} {d : TD} {b : ByteArray} {l r : Int} {ob : Prop} (ho : o.op = .slice t y lo hi none) (ht : td P t = some d) (hk : d.k = .str) (he : evE env y = some (sc (.string b))) (hl : bndE env 0 lo = some l) (hr : bndE env b.size hi = some r)
      (h0 : 0 ≤ l) (h1 : l ≤ r) (h2 : r ≤ b.size) : Does P env rt ep o ⟨some (sc (.string (b.extract l.toNat r.toNat))), [], false, ob⟩
  | slice {t et : TypeId} {y : Operand} {lo hi : Option Operand} {d de : TD} {e : E} {n : Nat} {l r : Int} {e' : E} {ob ob' : Prop} (ho : o.op = .slice t y lo hi none) (ht : td P t = some d) (hk : d.k = .slice et) (hte : td P et = some de) (he : evE env y = some e) (hn : lenE rt e = some n)
      (hl : bndE env 0 lo = some l) (hr : bndE env n hi = some r) (hs : slE rt de.size l r e = some (e', ob)) (hob : ob) : Does P env rt ep o ⟨some e', [], false, ob'⟩
  | convInt {src dst : TypeId} {y : Operand} {d1 d2 : TD} {k k' : IntKind} {n : Int} {ob : Prop} (ho : o.op = .convert src dst y) (h1 : td P src = some d1) (h2 : td P dst = some d2) (hk : d2.k = .int k') (he : evE env y = some (sc (.int k n))) : Does P env rt ep o ⟨some (sc (.int k' (k'.wrap n))), [], false, ob⟩
  | convStr {src dst : TypeId} {y : Operand} {d1 d2 : TD} {b : ByteArray} {ob : Prop} (ho : o.op = .convert src dst y) (h1 : td P src = some d1) (h2 : td P dst = some d2) (hk : d2.k = .str) (he : evE env y = some (sc (.string b))) : Does P env rt ep o ⟨some (sc (.string b)), [], false, ob⟩
  | convBytes {src dst et : TypeId} {y : Operand} {d1 d2 d3 : TD} {e : E} {xs : List (List C)} {bs : List UInt8} {ob : Prop} (ho : o.op = .convert src dst y) (h1 : td P src = some d1) (hk1 : d1.k = .slice et) (h3 : td P et = some d3) (hk3 : d3.k = .int .u8) (h2 : td P dst = some d2) (hk : d2.k = .str)
      (he : evE env y = some e) (hv : viewE rt e = some xs) (hb : bytesOf xs = some bs) : Does P env rt ep o ⟨some (sc (.string ⟨bs.toArray⟩)), [], false, ob⟩
  | convToBytes {src dst et : TypeId} {y : Operand} {d1 d2 d3 : TD} {b : ByteArray} {ob : Prop} (ho : o.op = .convert src dst y) (h1 : td P src = some d1) (h2 : td P dst = some d2) (hk2 : d2.k = .slice et) (h3 : td P et = some d3) (hk3 : d3.k = .int .u8) (he : evE env y = some (sc (.string b))) :
      Does P env rt ep o ⟨some (.x (.o (.c (.s (b.data.toList.map encB))))), [], false, ob⟩
  | buildSt {t : TypeId} {ps : Array (Nat × Operand)} {d : TD} {fs : List (Nat × TypeId)} {pl : List (Nat × Nat)} {r : List (Nat × A)} {ds : List D} {ob : Prop} (ho : o.op = .build t ps) (ht : td P t = some d) (hk : d.k = .st fs) (hz : d.zero.all (·.oneCell') = true) (hpl : placesT P fs = some pl)
      (hr : evParts env ps.toList = some r) (hf : fillD (pl[·]?) (zeroD d) r = some ds) : Does P env rt ep o ⟨some (.x (.a ds)), [], false, ob⟩
  | buildArr {t et : TypeId} {n : Nat} {ps : Array (Nat × Operand)} {d de : TD} {r : List (Nat × A)} {ds : List D} {ob : Prop} (ho : o.op = .build t ps) (ht : td P t = some d) (hk : d.k = .arr n et) (hte : td P et = some de) (hz : d.zero.all (·.oneCell') = true)
      (hr : evParts env ps.toList = some r) (hf : fillD (fun i => some (i * de.size, de.size)) (zeroD d) r = some ds) : Does P env rt ep o ⟨some (.x (.a ds)), [], false, ob⟩
  | buildSlice {t e : TypeId} {n : Nat} {ps : Array (Nat × Operand)} {q : Nat} {d de : TD} {r : List (Nat × A)} {rows : List (List D)} {zs : List (List C)} {ρs : List Nm} {ob : Prop} (ho : o.op = .buildSlice t n ps) (hdst : o.dst = some q) (ht : td P t = some d) (hk : d.k = .slice e) (hte : td P e = some de)
      (hzl : de.zero.length = de.size) (hz : de.zero.all (·.oneCell') = true) (hn : n * de.size ≤ 16777216) (hn2 : n ≤ 16777216) (hr : evParts env ps.toList = some r) (hrows : setRows de.size (List.replicate n (zeroD de)) r = some rows) (hs : shutR rt rows = some (zs, ρs)) :
      Does P env rt ep o ⟨some (.x (.o (.h (ep, 100 * q) 0 n n))), ρs.map (fun ρ => (ρ, none)) ++ [((ep, 100 * q), some (.row de.size zs))], true, ob⟩
  | buildSliceP {t e : TypeId} {n : Nat} {ps : Array (Nat × Operand)} {q : Nat} {d de : TD} {r : List (Nat × A)} {rows : List (List D)} {ob : Prop} (ho : o.op = .buildSlice t n ps) (hdst : o.dst = some q) (ht : td P t = some d) (hk : d.k = .slice e) (hte : td P e = some de)
      (hzl : de.zero.length = de.size) (hz : de.zero.all (·.oneCell') = true) (hn : n * de.size ≤ 16777216) (hn2 : n ≤ 16777216) (hr : evParts env ps.toList = some r) (hrows : setRows de.size (List.replicate n (zeroD de)) r = some rows) :
      Does P env rt ep o ⟨some (.x (.o (.h (ep, 100 * q) 0 n n))), [((ep, 100 * q), some (.bx rows))], true, ob⟩
  | makeSlice {t e : TypeId} {y z : Operand} {q : Nat} {d de : TD} {ey ez : E} {k1 k2 : IntKind} {l c : Int} {ob : Prop} (ho : o.op = .makeSlice t y z) (hdst : o.dst = some q) (ht : td P t = some d) (hk : d.k = .slice e) (hte : td P e = some de)
      (hzl : de.zero.length = de.size) (hz : de.zero.all (·.oneCell') = true) (hy : evE env y = some ey) (hz' : evE env z = some ez) (hl : isI ey = some (k1, l)) (hc : isI ez = some (k2, c)) (h0 : 0 ≤ l) (hlc : l ≤ c) (hb : (de.bytes : Int) * c ≤ 281474976710656) (h63 : c ≤ 9223372036854775807) :
      Does P env rt ep o ⟨some (.x (.o (.h (ep, 100 * q) 0 l.toNat l.toNat))), [((ep, 100 * q), some (.row de.size (List.replicate l.toNat (de.zero.map C.v))))], true, ob⟩
  | append {y z : Operand} {t t' e : TypeId} {d1 d2 de : TD} {str : Bool} {ρ : Nm} {n kk : Nat} {xs : List (List C)} {ez : E} {ys : List (List C)} {ob : Prop} (ho : o.op = .call { callee := .builtin .append, args := #[y, z], argTypes := #[t, t'] }) (ht : td P t = some d1) (hk : d1.k = .slice e) (ht' : td P t' = some d2)
      (hk' : (str = false ∧ ∃ e', d2.k = .slice e') ∨ (str = true ∧ d2.k = .str)) (hte : td P e = some de) (hzl : de.zero.length = de.size) (he : evE env y = some (.x (.o (.h ρ 0 n n)))) (hr : rt ρ = some (.row kk xs)) (hn : xs.length = n) (hkk : kk = de.size) (hz : evE env z = some ez)
      (hv : srcE rt str ez = some ys) (hyl : ∀ y ∈ ys, y.length = de.size) (hk1 : str = true → de.size = 1) (hbytes : (n + ys.length) * de.bytes ≤ 140737488355328) (h63 : n + ys.length ≤ maxLen) :
      Does P env rt ep o ⟨some (.x (.o (.h ρ 0 (n + ys.length) (n + ys.length)))), [(ρ, some (.row kk (xs ++ ys)))], false, ob⟩
  | appendNil {y z : Operand} {t t' e : TypeId} {q : Nat} {d1 d2 de : TD} {str : Bool} {ez : E} {ys : List (List C)} {ob : Prop} (ho : o.op = .call { callee := .builtin .append, args := #[y, z], argTypes := #[t, t'] }) (hdst : o.dst = some q) (ht : td P t = some d1) (hk : d1.k = .slice e) (ht' : td P t' = some d2)
      (hk' : (str = false ∧ ∃ e', d2.k = .slice e') ∨ (str = true ∧ d2.k = .str)) (hte : td P e = some de) (hzl : de.zero.length = de.size) (he : evE env y = some (sc (.slice none 0 0))) (hz : evE env z = some ez)
      (hv : srcE rt str ez = some ys) (hyl : ∀ y ∈ ys, y.length = de.size) (hk1 : str = true → de.size = 1) (hbytes : ys.length * de.bytes ≤ 140737488355328) (h63 : ys.length ≤ maxLen) :
      Does P env rt ep o ⟨some (.x (.o (.h (ep, 100 * q) 0 ys.length ys.length))), [((ep, 100 * q), some (.row de.size ys))], true, ob⟩
  | copy {y z : Operand} {t t' e : TypeId} {d1 de : TD} {ρ : Nm} {n kk : Nat} {xs : List (List C)} {ez : E} {ys : List (List C)} {ob : Prop} (ho : o.op = .call { callee := .builtin .copy, args := #[y, z], argTypes := #[t, t'] }) (ht : td P t = some d1) (hk : d1.k = .slice e) (hte : td P e = some de)
      (he : evE env y = some (.x (.o (.h ρ 0 n n)))) (hr : rt ρ = some (.row kk xs)) (hn : xs.length = n) (hkk : kk = de.size) (hz : evE env z = some ez) (hv : viewE rt ez = some ys) (hyl : ∀ y ∈ ys, y.length = de.size) (hyn : ys.length = n) :
      Does P env rt ep o ⟨some (sc (.int .i64 n)), [(ρ, some (.row kk ys))], false, ob⟩
  | min {y z : Operand} {ts : Array TypeId} {k l : IntKind} {m n : Int} {ob : Prop} (ho : o.op = .call { callee := .builtin .min, args := #[y, z], argTypes := ts }) (hy : evE env y = some (sc (.int k m))) (hz : evE env z = some (sc (.int l n))) : Does P env rt ep o ⟨some (sc (.int k (min m n))), [], false, ob⟩
  | max {y z : Operand} {ts : Array TypeId} {k l : IntKind} {m n : Int} {ob : Prop} (ho : o.op = .call { callee := .builtin .max, args := #[y, z], argTypes := ts }) (hy : evE env y = some (sc (.int k m))) (hz : evE env z = some (sc (.int l n))) : Does P env rt ep o ⟨some (sc (.int k (max m n))), [], false, ob⟩
  | makeFunc {fn : Fn} {first cap : Array Operand} {fs cs : List Value} {ob : Prop} (ho : o.op = .makeFunc fn first cap) (hf : toVs env first.toList = some fs) (hc : toVs env cap.toList = some cs) : Does P env rt ep o ⟨some (sc (.func fn fs.toArray cs.toArray)), [], false, ob⟩
  | range {t : TypeId} {y : Operand} {q : Nat} {d : TD} {b : ByteArray} {ob : Prop} (ho : o.op = .range t y) (hdst : o.dst = some q) (ht : td P t = some d) (hk : d.k = .str) (he : evE env y = some (sc (.string b))) :
      Does P env rt ep o ⟨some (.x (.o (.p (ep, 100 * q) 0 0 1))), [((ep, 100 * q), some (.it b 0))], true, ob⟩
  | next {y : Operand} {ρ : Nm} {b : ByteArray} {p : Nat} {ob : Prop} {f : Eff} (ho : o.op = .next y true) (he : evE env y = some (.x (.o (.p ρ 0 0 1)))) (hr : rt ρ = some (.it b p))
      (hf : f = match nextV b p with
        | some (c, n) => ⟨some (.t [.o (.c (.v (.bool true))), .o (.c (.v (.int .i64 p))), .o (.c (.v (.int .i32 c)))]), [(ρ, some (.it b (p + n)))], false, ob⟩
        | none => ⟨some (.t [.o (.c (.v (.bool false)))]), [], false, ob⟩) : Does P env rt ep o f
  | makeMap {t : TypeId} {q : Nat} {ob : Prop} (ho : o.op = .makeMap t none) (hdst : o.dst = some q) : Does P env rt ep o ⟨some (.x (.o (.p (ep, 100 * q) 0 0 0))), [((ep, 100 * q), some (.mp []))], true, ob⟩
  | lookup {t kt et : TypeId} {y z : Operand} {cm : Bool} {d dk : TD} {ρ : Nm} {es : List (Value × Value)} {ez : E} {kv : Value} {ks : List Value} {b : Bool} {r : Option (Nat × Value)} {y' : A} {ob : Prop} (ho : o.op = .lookup t y z cm) (ht : td P t = some d) (hk : d.k = .map kt et) (hkt : td P kt = some dk)
      (he : evE env y = some (.x (.o (.p ρ 0 0 0)))) (hr : rt ρ = some (.mp es)) (hz : evE env z = some ez) (hkv : toV ez = some kv) (hks : kc dk.agg kv = some ks) (hv : eqT P 8 kt ks ks = some b)
      (hm : mfind P kt dk.agg ks es = some r) (hy : (match r with | some (_, v) => ofV v | none => zvE P et) = some (.x y')) :
      Does P env rt ep o ⟨some (lkE r.isSome y' cm), [], false, ob⟩
  | mapUpdate {t kt et : TypeId} {y z u : Operand} {d dk : TD} {ρ : Nm} {es : List (Value × Value)} {ez eu : E} {kv uv : Value} {ks : List Value} {b : Bool} {ob : Prop} (ho : o.op = .mapUpdate t y z u) (hdst : o.dst = none) (ht : td P t = some d) (hk : d.k = .map kt et) (hkt : td P kt = some dk)
      (he : evE env y = some (.x (.o (.p ρ 0 0 0)))) (hr : rt ρ = some (.mp es)) (hz : evE env z = some ez) (hkv : toV ez = some kv) (hks : kc dk.agg kv = some ks) (hv : eqT P 8 kt ks ks = some b)
      (hm : mfind P kt dk.agg ks es = some none) (hu : evE env u = some eu) (huv : toV eu = some uv) : Does P env rt ep o ⟨none, [(ρ, some (.mp (es ++ [(kv, uv)])))], false, ob⟩
  | call {fo : Operand} {zs : Array Operand} {ts : Array TypeId} {f : FuncId} {fs cs : List Value} {es : List E} {ps : List Nm} {lend : Bool} {rin : List Root} {rout : List (Option Root)} {args : List E} {res : E} {ob : Prop} (ho : o.op = .call { callee := .value fo, args := zs, argTypes := ts })
      (hfo : evE env fo = some (sc (.func (.func f) fs.toArray cs.toArray))) (hes : mapO (evE env) zs.toList = some es) (hname : ∃ fn b, P.funcs[f]? = some fn ∧ fn.body = some b ∧ (fn.name == "runtime.NumGoroutine") = false) (hnd : ps.Nodup) (hrin : F2 (fun ρ r' => ∃ r, rt ρ = some r ∧ passR ps rt lend r = some r') ps rin)
      (hargs : mapO (passE ps rt lend) (fs.filterMap ofV ++ es ++ cs.filterMap ofV) = some args) (hfl : (fs.filterMap ofV).length = fs.length ∧ (cs.filterMap ofV).length = cs.length) (hsem : VSem P f args (rin.map some) res rout) (hle : ps.length ≤ rout.length) (hnew : rout.length - ps.length ≤ 100)
      (hu : ps.length < rout.length → o.dst ≠ none) (hkeep : lend = true → noShE res ∧ ∀ r, some r ∈ rout → noShR r) :
      Does P env rt ep o ⟨some (backE (callN ep (o.dst.getD 0) ps rout.length) res), (callN ep (o.dst.getD 0) ps rout.length).zip (rout.map (Option.map (backR (callN ep (o.dst.getD 0) ps rout.length)))), decide (ps.length < rout.length), ob⟩

section
variable {P : Program} {x : Ctx} {μ : Mu} {I : Imm} {s : St} {a : Act} {w : World}

theorem Goes.wp {o : Oper} {s' : St} {Q : Exit → Act → World → Prop} (h : Goes P x o a w s') : o.wp P a w (Rel x s') Q := by
  obtain ⟨v, w', hr | ⟨hr, hv⟩, hR⟩ := h
  · unfold Oper.wp; rw [hr]; exact hR
  · unfold Oper.wp; rw [hr]; subst hv; exact hR

theorem go_binB (h : RelX x μ I s a w) {o : Oper} {op : BinOp} {t u : TypeId} {y z : Operand} {m n : Bool} {d : TD} (ho : o.op = .binOp op t y z u) (hop : op = .eql ∨ op = .neq) (hd : ∀ d, o.dst = some d → d < x.n) (ht : td P t = some d) (hk : d.k = .bool)
    (hy : evE s.env y = some (sc (.bool m))) (hz : evE s.env z = some (sc (.bool n))) {ob : Prop} : Goes P x o a w (s.app o.dst ⟨some (sc (.bool (if op = .eql then m == n else !(m == n)))), [], false, ob⟩) := by
  have e1 : a.eval y = .bool m := sc_er (evE_spec h hy)
  have e2 : a.eval z = .bool n := sc_er (evE_spec h hz)
  have hrun : (Op.equal t (.bool m) (.bool n)).run P w = .ok (m == n) w := run_equalIn_bool' (P := P) w 9999 t m n (td_bool ht hk)
  refine goes_val h hd (e := sc _) (v := .bool (if op = .eql then m == n else !(m == n))) ?_ (.v _ rfl)
  rcases hop with rfl | rfl
  · have hg : (eqGuard .eql t y z (.bool m) (.bool n)).run P w = .ok () w := by simp [eqGuard]
    simp only [execOp, ho, e1, e2, Sem.run_bind, hg, Result.andThen_ok, binOp, hrun, Sem.run_pure, if_true]
  · have hg : (eqGuard .neq t y z (.bool m) (.bool n)).run P w = .ok () w := by simp [eqGuard]
    simp only [execOp, ho, e1, e2, Sem.run_bind, hg, Result.andThen_ok, binOp, hrun, Sem.run_pure]
    simp

theorem ofV_list {L : Lens} : ∀ {vs : List Value}, (vs.filterMap ofV).length = vs.length → F2 (fun e u => ER w I μ L e u) (vs.filterMap ofV) vs
  | [], _ => .nil
  | v :: vs, h => by
    cases hv : ofV v with
    | none =>
      rw [List.filterMap_cons_none hv] at h
      have := List.length_filterMap_le ofV vs
      simp at h; omega
    | some e =>
      rw [List.filterMap_cons_some hv] at h ⊢
      exact .cons (ofV_spec hv) (ofV_list (by simpa using h))

theorem mapO_er (h : RelX x μ I s a w) : ∀ {zs : List Operand} {es : List E}, mapO (evE s.env) zs = some es → F2 (fun e u => ER w I μ s.L e u) es (zs.map a.eval)
  | [], es, he => by simp only [mapO, Option.some.injEq] at he; subst he; exact .nil
  | z :: zs, es, he => by
    simp only [mapO] at he
    split at he
    · rename_i e r h1 h2; cases he; exact .cons (evE_spec h h1) (mapO_er h h2)
    · cases he

theorem Does.sound {o : Oper} {f : Eff} (hD : Does P s.env s.rt s.ep o f) (h : RelX x μ I s a w) (hd : ∀ d, o.dst = some d → d < x.n) (hu : f.new = true → ∀ d, o.dst = some d → s.used d = false) {Q : Exit → Act → World → Prop} :
    o.wp P a w (Rel x (s.app o.dst f)) Q := by
  cases hD with
  | move ho he => exact (go_move h ho hd he).wp
  | pick ho hc hb he => exact (go_pick h ho hd hc hb he).wp
  | alloc ho hdst ht hz => exact (go_alloc h ho hdst (hd _ hdst) (hu rfl _ hdst) ht hz).wp
  | box ho hdst he hy => exact (go_box h ho hdst (hd _ hdst) (hu rfl _ hdst) he hy).wp
  | load ho he ht hz => exact (go_load h ho hd he ht hz).wp
  | store ho hdst hp hy hya ht hsz hs => exact (go_store h ho hdst hp hy hya ht hsz hs).wp
  | nilCheck ho he hl => exact (go_nilCheck h ho hd he hl).wp
  | fieldAddr ho he hl ht hk hf hft hz ha => exact (go_fieldAddr h ho hd he hl ht hk hf hft hz ha).wp
  | field ho he ht hk hf hft hz => exact (go_field h ho hd he ht hk hf hft hz).wp
  | extract ho he hz => exact (go_extract h ho hd he hz).wp
  | bin ho hy hz hb hob => exact (go_bin h ho hd hy hz hb hob).wp
  | binB ho hop ht hk hy hz => exact (go_binB h ho hop hd ht hk hy hz).wp
  | eqSt ho hop hy hz hu' hv ht ha hok hn hr => exact (go_eqSt h ho hop hd hy hz hu' hv ht ha hok hn hr).wp
  | un ho hy hb => exact (go_un h ho hd hy hb).wp
  | len ho hts ht hk he hn => exact (go_len h ho hd hts ht hk he hn).wp
  | lenStr ho hts ht hk he => exact (go_lenStr h ho hd hts ht hk he).wp
  | indexAddr ho ht hk hte he hi hii hx hob => exact (go_indexAddr h ho hd ht hk hte he hi hii hx hob).wp
  | indexAddrArr ho ht hk hte he hl hi hii hx h0 h1 => exact (go_indexAddrArr h ho hd ht hk hte he hl hi hii hx h0 h1).wp
  | indexStr ho ht hk he hi hii h0 hc => exact (go_indexStr h ho hd ht hk he hi hii h0 hc).wp
  | indexArr ho ht hk hte he hi hii h0 h1 hv => exact (go_indexArr h ho hd ht hk hte he hi hii h0 h1 hv).wp
  | sliceStr ho ht hk he hl hr h0 h1 h2 => exact (go_sliceStr h ho hd ht hk he hl hr h0 h1 h2).wp
  | slice ho ht hk hte he hn hl hr hs hob => exact (go_slice h ho hd ht hk hte he hn hl hr hs hob).wp
  | convInt ho h1 h2 hk he => exact (go_convInt h ho hd h1 h2 hk he).wp
  | convStr ho h1 h2 hk he => exact (go_convStr h ho hd h1 h2 hk he).wp
  | convBytes ho h1 hk1 h3 hk3 h2 hk he hv hb => exact (go_convBytes h ho hd h1 hk1 h3 hk3 h2 hk he hv hb).wp
  | convToBytes ho h1 h2 hk2 h3 hk3 he => exact (go_convToBytes h ho hd h1 h2 hk2 h3 hk3 he).wp
  | buildSt ho ht hk hz hpl hr hf => exact (go_buildSt h ho hd ht hk hz hpl hr hf).wp
  | buildArr ho ht hk hte hz hr hf => exact (go_buildArr h ho hd ht hk hte hz hr hf).wp
  | buildSlice ho hdst ht hk hte hzl hz hn hn2 hr hrows hs => exact (go_buildSlice h ho hdst (hd _ hdst) (hu rfl _ hdst) ht hk hte hzl hz hn hn2 hr hrows hs).wp
  | buildSliceP ho hdst ht hk hte hzl hz hn hn2 hr hrows => exact (go_buildSliceP h ho hdst (hd _ hdst) (hu rfl _ hdst) ht hk hte hzl hz hn hn2 hr hrows).wp
  | makeSlice ho hdst ht hk hte hzl hz hy hz' hl hc h0 hlc hb h63 => exact (go_makeSlice h ho hdst (hd _ hdst) (hu rfl _ hdst) ht hk hte hzl hz hy hz' hl hc h0 hlc hb h63).wp
  | append ho ht hk ht' hk' hte hzl he hr hn hkk hz hv hyl hk1 hbytes h63 => exact (go_append h ho hd ht hk ht' hk' hte hzl he hr hn hkk hz hv hyl hk1 hbytes h63).wp
  | appendNil ho hdst ht hk ht' hk' hte hzl he hz hv hyl hk1 hbytes h63 => exact (go_appendNil h ho hdst (hd _ hdst) (hu rfl _ hdst) ht hk ht' hk' hte hzl he hz hv hyl hk1 hbytes h63).wp
  | copy ho ht hk hte he hr hn hkk hz hv hyl hyn => exact (go_copy h ho hd ht hk hte he hr hn hkk hz hv hyl hyn).wp
  | min ho hy hz => exact (go_min h ho hd hy hz).wp
  | max ho hy hz => exact (go_max h ho hd hy hz).wp
  | makeFunc ho hf hc => exact (go_makeFunc h ho hd hf hc).wp
  | range ho hdst ht hk he => exact (go_range h ho hdst (hd _ hdst) (hu rfl _ hdst) ht hk he).wp
  | next ho he hr hf => exact (go_next h ho hd he hr hf).wp
  | makeMap ho hdst => exact (go_makeMap h ho hdst (hd _ hdst) (hu rfl _ hdst)).wp
  | lookup ho ht hk hkt he hr hz hkv hks hv hm hy => exact (go_lookup h ho hd ht hk hkt he hr hz hkv hks hv hm hy).wp
  | mapUpdate ho hdst ht hk hkt he hr hz hkv hks hv hm hu' huv => exact (go_mapUpdate h ho hdst ht hk hkt he hr hz hkv hks hv hm hu' huv).wp
  | @call fo zs ts f fs cs es ps lend rin rout args res ob ho hfo hes hname hnd hrin hargs hfl hsem hle hnew hdu hkeep =>
    obtain ⟨fn, b, hfn, hb, hnm⟩ := hname
    have hfv : a.eval fo = .func (.func f) fs.toArray cs.toArray := sc_er (evE_spec h hfo)
    have hF : F2 (fun e u => ER w I μ s.L e u) (fs.filterMap ofV ++ es ++ cs.filterMap ofV) (fs ++ zs.toList.map a.eval ++ cs) :=
      F2.append (F2.append (ofV_list hfl.1) (mapO_er h hes)) (ofV_list hfl.2)
    have hA : F2 (fun e' u => ∃ e, ER w I μ s.L e u ∧ passE ps s.rt lend e = some e') args (fs ++ zs.toList.map a.eval ++ cs) :=
      F2.pass (R := fun e u => ER w I μ s.L e u) (fun y z u h1 h2 => ⟨y, h1, h2⟩) hargs hF
    have hc := call_rel h hnd hrin hA hsem hd hle hnew (fun hlt => by
      obtain ⟨d, hd'⟩ := Option.ne_none_iff_exists'.1 (hdu hlt)
      exact ⟨d, hd', hu (by simpa using hlt) d hd'⟩) hkeep (ob := ob)
    have hrun : (execOp a.eval o).run P w = .ok (.enter f (fs ++ zs.toList.map a.eval ++ cs).toArray) w := by
      have e1 : zs.map a.eval = (zs.toList.map a.eval).toArray := by apply Array.ext'; simp
      simp only [execOp, ho, resolve, hfv, Deferred.ofValue, invoke, callFunc, Sem.run_bind, Sem.run_pure, Result.andThen_ok, run_program, hfn, hnm, hb, Bool.false_eq_true, if_false, Option.isNone_some, e1]
      simp
    unfold Oper.wp
    rw [hrun]
    refine hc.mono ?_
    rintro e w' ⟨v, rfl, hR⟩
    exact hR
end

end Go.Proofs.YtcgkhljolflenaaGreatW.V
