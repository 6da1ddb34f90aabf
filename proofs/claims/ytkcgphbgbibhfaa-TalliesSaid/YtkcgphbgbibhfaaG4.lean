/- Each operation of the loaded code as a transformer of ghost heaps: 'gop', with the model's run of it ('gop_sound'). Nothing here is a statement on the program. -/
import Derived.Test.YtkcgphbgbibhfaaG3
namespace Go.Proofs.Ytkcgphbgbibhfaa.GW
open Go
set_option linter.unusedVariables false
set_option linter.unusedSimpArgs false

/-- what is known of a slot: nothing; that its operation was passed over; its value -/
inductive GV where
  | unk | skip | val (v : Value)

abbrev GEnv := Nat → GV

def evO (e : GEnv) : Operand → Option Value
  | .tmp t => (match e t with | .val v => some v | _ => none)
  | .const v => some v
  | .global g => some (.pointer (some ⟨g, 0, none⟩))
  | .func f => some (.func (.func f) #[] #[])

def evL (e : GEnv) : List Operand → Option (List Value)
  | [] => some []
  | o :: os => match evO e o, evL e os with | some v, some vs => some (v :: vs) | _, _ => none

def evM (e : GEnv) : Option Operand → Option (Option Value)
  | none => some none
  | some o => match evO e o with | some v => some (some v) | none => none

def partsK (place : Nat → Option (Nat × Nat)) (e : GEnv) : List (Nat × Operand) → Option (List (Nat × Nat × Value))
  | [] => some []
  | (i, o) :: r => match place i, evO e o, partsK place e r with | some (off, sz), some v, some l => some ((off, sz, v) :: l) | _, _, _ => none

def placeS (P : Program) (fs : Array Field) (i : Nat) : Option (Nat × Nat) :=
  match fs[i]? with
  | some f => (match P.info? f.type with | some j => some (f.offset, j.size) | none => none)
  | none => none

def pickO (c : Value) (a b : Option Value) : Option Value := match c with | .bool true => a | .bool false => b | _ => none

def ncV : Value → Option Value
  | .pointer none | .nilIface | .nilFunc => none
  | .func (.method _) _ _ => none
  | x => some x

inductive NK where
  | bool | ptr | iface | slice | func

def nkK : TypeDesc → Option NK
  | .bool => some .bool
  | .pointer _ => some .ptr
  | .interface _ => some .iface
  | .slice _ => some .slice
  | .func _ _ _ => some .func
  | _ => none

/-- '==' where a side is nil, and on bools ('c': a side is a constant) -/
def eqK (k : NK) (c : Bool) (x y : Value) : Option Bool :=
  match k, x, y with
  | .bool, .bool a, .bool b => some (a == b)
  | .ptr, .pointer none, .pointer none => some true
  | .ptr, .pointer none, .pointer (some _) => some false
  | .ptr, .pointer (some _), .pointer none => some false
  | .iface, .nilIface, .nilIface => (match c with | true => some true | false => none)
  | .iface, .nilIface, .iface _ _ => some false
  | .iface, .iface _ _, .nilIface => some false
  | .slice, .slice none _ _, .slice none _ _ => some true
  | .slice, .slice none _ _, .slice (some _) _ _ => some false
  | .slice, .slice (some _) _ _, .slice none _ _ => some false
  | .func, .nilFunc, .nilFunc => some true
  | .func, .nilFunc, .func _ _ _ => some false
  | .func, .func _ _ _, .nilFunc => some false
  | _, _, _ => none

def isC : Operand → Bool
  | .const _ => true
  | _ => false

/-- '==' on whole numbers -/
def eqI (x y : Value) : Option Bool := match x, y with | .int k a, .int k' b => (if k = k' then some (a == b) else none) | _, _ => none

/-- '==' at a type -/
def eqG (P : Program) (t : TypeId) (c : Bool) (x y : Value) (K : Bool → Prop) : Prop :=
  match P.underlying t with
  | some (.int _) => bnd (eqI x y) K
  | some (.struct _) => (match P.eqGuardType P.depth t with | false => bnd (eqP P 10000 t x y) K | true => False)
  | some (.array _ _) => (match P.eqGuardType P.depth t with | false => bnd (eqP P 10000 t x y) K | true => False)
  | some d => (match nkK d with | some k => bnd (eqK k c x y) K | none => False)
  | none => False

def unV (op : UnOp) (x : Value) : Option Value :=
  match op, x with
  | .not, .bool b => some (.bool !b)
  | .neg, .int k n => some (.int k (k.wrap (0 - n)))
  | _, _ => none

def cvV (k : IntKind) (x : Value) : Option Value := match x with | .int _ n => some (.int k (k.wrap n)) | _ => none

def faV (off : Nat) (p : Value) : Option Value :=
  match p with
  | .pointer (some ⟨b, o, none⟩) => some (.pointer (some ⟨b, o + off, none⟩))
  | _ => none

def fdV (off n : Nat) (g : Bool) (v : Value) : Option Value :=
  match v with
  | .agg cs => (match g with | true => some (.agg (cs.extract off (off + n))) | false => cs[off]?)
  | _ => none

/-- the address of an array's element; of a slice's; an element of an array's value -/
def iaV (len size : Nat) (p i : Value) : Option Value :=
  match p, i with
  | .pointer (some ⟨b, o, none⟩), .int _ i => if 0 ≤ i ∧ i < len then some (.pointer (some ⟨b, o + i.toNat * size, none⟩)) else none
  | _, _ => none

def isV (size : Nat) (s i : Value) : Option Value :=
  match s, i with
  | .slice (some ⟨b, o, none⟩) len _, .int _ i => if 0 ≤ i ∧ i < len then some (.pointer (some ⟨b, o + i.toNat * size, none⟩)) else none
  | _, _ => none

def ixV (len n : Nat) (g : Bool) (v i : Value) : Option Value :=
  match v, i with
  | .agg cs, .int _ i => if 0 ≤ i ∧ i < len then (match g with | true => some (.agg (cs.extract (i.toNat * n) (i.toNat * n + n))) | false => cs[i.toNat * n]?) else none
  | _, _ => none

/-- bounds of a slice expression -/
def sbV (x : Option Value) (y dflt : Nat) : Option Nat :=
  match x with
  | none => some dflt
  | some (.int _ i) => if 0 ≤ i ∧ i ≤ y then some i.toNat else none
  | some _ => none

def slV (size : Nat) (s : Value) (lo hi : Option Value) : Option Value :=
  match s with
  | .slice a len cap =>
    match sbV hi cap len with
    | some h =>
      match sbV lo h 0 with
      | some l => some (.slice (if cap = l then a else a.map (·.add (l * size))) (h - l) (cap - l))
      | none => none
    | none => none
  | _ => none

def saV (n size : Nat) (p : Value) (lo hi : Option Value) : Option Value :=
  match p with
  | .pointer (some a) =>
    match sbV hi n n with
    | some h =>
      match sbV lo h 0 with
      | some l => some (.slice (some (if n = l then a else a.add (l * size))) (h - l) (n - l))
      | none => none
    | none => none
  | _ => none

def taV (asserted : TypeId) (zero : Value) (ok : Bool) (v : Value) : Option Value :=
  match v with
  | .nilIface => (match ok with | true => some (.tuple #[zero, .bool false]) | false => none)
  | .iface t x =>
    match Nat.beq t asserted with
    | true => (match ok with | true => some (.tuple #[x, .bool true]) | false => some x)
    | false => (match ok with | true => some (.tuple #[zero, .bool false]) | false => none)
  | _ => none

def tiV (P : Program) (want : Array (String × TypeId)) (zero : Value) (ok : Bool) (v : Value) : Option Value :=
  match v with
  | .nilIface => (match ok with | true => some (.tuple #[zero, .bool false]) | false => none)
  | .iface t x =>
    match P.info? t with
    | some i =>
      match Instr.missingMethod want i.methods with
      | none => (match ok with | true => some (.tuple #[v, .bool true]) | false => some v)
      | some _ => (match ok with | true => some (.tuple #[zero, .bool false]) | false => none)
    | none => none
  | _ => none

def zeroVK (P : Program) (t : TypeId) : Option Value := match P.info? t with | some i => i.zero | none => none

def exV (v : Value) (i : Nat) : Option Value := match v with | .tuple vs => vs[i]? | _ => none

def lnV (v : Value) : Option Value := match v with | .slice _ n _ => some (.int .i64 n) | _ => none

def m2V (mx : Bool) (x y : Value) : Option Value :=
  match x, y with
  | .int k a, .int _ b => some (.int k (match mx with | true => if a < b then b else a | false => if b < a then b else a))
  | _, _ => none

def mmV (mx : Bool) (x : Value) : List Value → Option Value
  | [] => some x
  | y :: r => match m2V mx x y with | some z => mmV mx z r | none => none

def cellsAt (size n : Nat) (v : Value) (h : GH) : Option (List Value) :=
  match v with
  | .slice none _ _ => some []
  | .slice (some ⟨b, off, sp⟩) _ _ =>
    match Nat.beq (n * size) 0 with
    | true => some []
    | false =>
      match sp with
      | some _ => none
      | none =>
        match h b with
        | some (.row _ pre _ _) => (match Nat.ble (off + n * size) pre.length with | true => some ((pre.drop off).take (n * size)) | false => none)
        | _ => none
  | _ => none

def putL (pre : List Value) (p : Nat) (new : List Value) : List Value := pre.take p ++ new ++ pre.drop (p + new.length)

def putV (base : Option Addr) (p : Nat) (new : List Value) (h : GH) : Option GH :=
  match new with
  | [] => some h
  | _ =>
    match base with
    | some ⟨b, off, none⟩ =>
      match h b with
      | some (.row T pre sz true) =>
        match Nat.ble (off + p) pre.length && (Nat.ble (off + p + new.length) sz && new.all oneCell) with
        | true => some (upd h b (.row T (putL pre (off + p) new) sz true))
        | false => none
      | _ => none
    | _ => none

/-- append: in its place, where there is room; else in a new row, of whatever capacity -/
def apV (T : TypeId) (size bytes : Nat) (s x : Value) (h : GH) (K : Value → GH → Prop) : Prop :=
  match s, x with
  | .slice base sl sc, .slice xb n xc =>
    bnd (cellsAt size n (.slice xb n xc) h) fun new =>
      if sl + n ≤ sc then bnd (putV base (sl * size) new h) fun h' => K (.slice base (sl + n) sc) h'
      else bnd (cellsAt size sl (.slice base sl sc) h) fun old =>
        (sl + n) * bytes ≤ 140737488355328 ∧ sl + n ≤ 9223372036854775807 ∧ old.length = sl * size ∧ new.length = n * size ∧
        ∀ b nc, h b = none → sl + n ≤ nc → K (.slice (some ⟨b, 0, none⟩) (sl + n) nc) (upd h b (.row T (old ++ new) (nc * size) true))
  | _, _ => False

def bsV (T : TypeId) (len : Nat) (cells : List Value) (ps : List (Nat × Nat × Value)) (h : GH) (K : Value → GH → Prop) : Prop :=
  bnd (fillV cells ps) fun cs => ∀ b, h b = none → K (.slice (some ⟨b, 0, none⟩) len len) (upd h b (.row T cs cs.length true))

def mkV (T : TypeId) (bytes : Nat) (zero : List Value) (l c : Value) (h : GH) (K : Value → GH → Prop) : Prop :=
  match l, c with
  | .int _ l, .int _ c => 0 ≤ l ∧ l ≤ c ∧ c ≤ 9223372036854775807 ∧ bytes * c ≤ 140737488355328 ∧
      ∀ b, h b = none → K (.slice (some ⟨b, 0, none⟩) l.toNat c.toNat) (upd h b (.row T (zerosV zero c.toNat) (zerosV zero c.toNat).length true))
  | _, _ => False

/-- a call of a function value -/
def callV (P : Program) (fv : Value) (args : List Value) (h : GH) (K : Value → GH → Prop) : Prop :=
  match fv with
  | .func (.func f) first cap => T P f (first.toList ++ args ++ cap.toList) h K
  | _ => False

/-- a call of a method through an interface -/
def ivV (P : Program) (recv : Value) (name : String) (args : List Value) (h : GH) (K : Value → GH → Prop) : Prop :=
  match recv with
  | .iface t v => ∃ f r, (∀ w, (method (P.types.size + Made.depth) t v name).run P w = .ok (f, r) w) ∧ T P f (r :: args) h K
  | _ => False

/-- the built-in functions -/
def gbi (P : Program) (b : Builtin) (ts : Array TypeId) (args : List Value) (h : GH) (K : Value → GH → Prop) : Prop :=
  match b, args with
  | .len, [v] =>
    (match ts[0]? with
     | some t => (match P.underlying t with | some (.slice _) => bnd (lnV v) fun v => K v h | some (.array n _) => K (.int .i64 n) h | _ => False)
     | none => False)
  | .append, [s, x] =>
    (match ts[0]?, ts[1]? with
     | some t, some t2 =>
       (match P.underlying t, P.underlying t2 with
        | some (.slice el), some (.slice _) =>
          (match P.info? el, zeroK P el with
           | some i, some z => (match Nat.beq z.length i.size with | true => apV el i.size i.bytes s x h K | false => False)
           | _, _ => False)
        | _, _ => False)
     | _, _ => False)
  | .min, x :: r => bnd (mmV false x r) fun v => K v h
  | .max, x :: r => bnd (mmV true x r) fun v => K v h
  | _, _ => False

def gop (P : Program) (op : Op) (e : GEnv) (h : GH) (K : Value → GH → Prop) : Prop :=
  match op with
  | .move x | .assign x => (match evO e x with | some v => K v h | none => False)
  | .pick c a b => (match evO e c with | some c => bnd (pickO c (evO e a) (evO e b)) fun v => K v h | none => False)
  | .alloc t => (match zeroK P t with | some z => newV t z h K | none => False)
  | .box t x => (match evO e x with | some v => newV t v.cells.toList h K | none => False)
  | .build t parts =>
    match P.underlying t with
    | some (.struct fs) =>
      (match fs.toList.all (fun f => (P.info? f.type).isSome), zeroK P t, partsK (placeS P fs) e parts.toList with
       | true, some z, some l => bnd (fillV z l) fun cs => K (.agg cs.toArray) h
       | _, _, _ => False)
    | some (.array _ el) =>
      (match P.info? el, zeroK P t with
       | some i, some z => (match partsK (fun j => some (j * i.size, i.size)) e parts.toList with | some l => bnd (fillV z l) fun cs => K (.agg cs.toArray) h | none => False)
       | _, _ => False)
    | _ => False
  | .buildSlice t len parts =>
    match P.underlying t with
    | some (.slice el) =>
      (match P.info? el, zeroK P el with
       | some i, some z =>
         (match partsK (fun j => some (j * i.size, i.size)) e parts.toList, Nat.ble (len * i.size) 16777216 && Nat.beq z.length i.size with
          | some l, true => bsV el len (zerosV z len) l h K
          | _, _ => False)
       | _, _ => False)
    | _ => False
  | .load t a => (match evO e a, szK P t with | some p, some (n, g) => bnd (ldV n g p h) fun v => K v h | _, _ => False)
  | .store t a x => (match evO e a, evO e x, szK P t with | some p, some v, some (n, _) => bnd (stV n p v h) fun h' => K undef h' | _, _, _ => False)
  | .nilCheck x => (match evO e x with | some v => bnd (ncV v) fun v => K v h | none => False)
  | .binOp op t x y _ =>
    match evO e x, evO e y with
    | some a, some b =>
      (match op with
       | .eql => eqG P t (isC x || isC y) a b fun r => K (.bool r) h
       | .neq => eqG P t (isC x || isC y) a b fun r => K (.bool !r) h
       | _ => bnd (binV op a b) fun v => K v h)
    | _, _ => False
  | .unOp op _ x => (match evO e x with | some v => bnd (unV op v) fun v => K v h | none => False)
  | .convert s d x =>
    match evO e x, P.underlying s, P.underlying d with
    | some v, some _, some (.int k) => bnd (cvV k v) fun v => K v h
    | _, _, _ => False
  | .makeInterface t x => (match evO e x, P.underlying t with | _, some (.interface _) => False | some v, some _ => K (.iface t v) h | _, _ => False)
  | .makeFunc fn f c => (match evL e f.toList, evL e c.toList with | some a, some b => K (.func fn a.toArray b.toArray) h | _, _ => False)
  | .makeSlice t l c =>
    match evO e l, evO e c, P.underlying t with
    | some l, some c, some (.slice el) =>
      (match P.info? el, zeroK P el with
       | some i, some z => (match Nat.beq z.length i.size with | true => mkV el i.bytes z l c h K | false => False)
       | _, _ => False)
    | _, _, _ => False
  | .slice t x lo hi none =>
    match evO e x, evM e lo, evM e hi, P.underlying t with
    | some v, some lo, some hi, some (.slice el) => (match P.info? el with | some i => bnd (slV i.size v lo hi) fun v => K v h | none => False)
    | some v, some lo, some hi, some (.array n el) => (match P.info? el with | some i => bnd (saV n i.size v lo hi) fun v => K v h | none => False)
    | _, _, _, _ => False
  | .fieldAddr s x f =>
    match evO e x, fieldK P s f with
    | some v, some (off, n, _) => (match Nat.beq n 0 with | false => bnd (faV off v) fun v => K v h | true => False)
    | _, _ => False
  | .field t x f => (match evO e x, fieldK P t f with | some v, some (off, n, g) => bnd (fdV off n g v) fun v => K v h | _, _ => False)
  | .indexAddr t x i =>
    match evO e x, evO e i, P.underlying t with
    | some v, some i, some (.array len el) => (match P.info? el with | some j => bnd (iaV len j.size v i) fun v => K v h | none => False)
    | some v, some i, some (.slice el) => (match P.info? el with | some j => bnd (isV j.size v i) fun v => K v h | none => False)
    | _, _, _ => False
  | .index t x i =>
    match evO e x, evO e i, P.underlying t with
    | some v, some i, some (.array len el) => (match szK P el with | some (n, g) => bnd (ixV len n g v i) fun v => K v h | none => False)
    | _, _, _ => False
  | .typeAssert x xt as ok =>
    match evO e x, P.underlying as, zeroVK P as with
    | some v, some (.interface want), some z => bnd (tiV P want z ok v) fun v => K v h
    | some v, some _, some z => bnd (taV as z ok v) fun v => K v h
    | _, _, _ => False
  | .extract t i => (match evO e t with | some v => bnd (exV v i) fun v => K v h | none => False)
  | .call c =>
    match c.callee with
    | .value f => (match evO e f, evL e c.args.toList with | some fv, some args => callV P fv args h K | _, _ => False)
    | .invoke r name => (match evO e r, evL e c.args.toList with | some rv, some args => ivV P rv name args h K | _, _ => False)
    | .builtin b => (match evL e c.args.toList with | some args => gbi P b c.argTypes args h K | none => False)
  | _ => False

end Go.Proofs.Ytkcgphbgbibhfaa.GW
