/-
  THE ENGINE, PART B: what must be shown of a function's code, as a plain proposition that simp reckons. Over any program. No condition.
-/
import Derived.Test.YtloeiefijmbkiaaEngA
import Derived.RangeFuncLeaves
import Derived.RangeFuncRecord
import Derived.OrdersIn
import Derived.TacticsIn
set_option linter.unusedSimpArgs false
set_option linter.unusedVariables false
set_option linter.unusedSectionVars false
namespace Go.E

/-- what stands behind a tag is not looked into by simp -/
inductive Tag {α : Sort _} (a : α) : Type
  | mk

/-! ### Facts about the program's types, by name (each is a closed fact of one program) -/
def tk (P : Program) (t : TypeId) : TypeDesc := (P.underlying t).getD .invalid
def tsz (P : Program) (t : TypeId) : Nat := ((P.info? t).map (·.size)).getD 0
def tby (P : Program) (t : TypeId) : Nat := ((P.info? t).map (·.bytes)).getD 0
def tzr (P : Program) (t : TypeId) : Option Value := (P.info? t).bind (·.zero)
/-- a field's offset; none: no such field, or a field of no cells -/
def tfo (P : Program) (s : TypeId) (f : Nat) : Option Nat :=
  match tk P s with
  | .struct fs => match fs[f]? with
    | some fd => if tsz P fd.type = 0 then none else some fd.offset
    | none => none
  | _ => none
def tagg (d : TypeDesc) : Bool := match d with
  | .struct _ | .array _ _ => true
  | _ => false
/-- is it a type at all? -/
def tis (d : TypeDesc) : Bool := match d with
  | .invalid => false
  | _ => true

theorem run_underlying_tk {P : Program} {t : TypeId} (h : tis (tk P t) = true) (w : World) : (underlying t).run P w = .ok (tk P t) w := by
  unfold tk at *
  cases hu : P.underlying t with
  | none => rw [hu] at h; simp [tis] at h
  | some d => simp [run_underlying hu]

theorem underlying_some {P : Program} {t : TypeId} (h : tis (tk P t) = true) : P.underlying t = some (tk P t) := by
  unfold tk at *
  cases hu : P.underlying t with
  | none => rw [hu] at h; simp [tis] at h
  | some d => rfl

theorem info_of_tsz {P : Program} {t : TypeId} (h : tsz P t ≠ 0) : ∃ i, P.info? t = some i ∧ i.size = tsz P t ∧ i.bytes = tby P t ∧ i.zero = tzr P t := by
  unfold tsz tby tzr at *
  cases hi : P.info? t with
  | none => rw [hi] at h; simp at h
  | some i => exact ⟨i, rfl, rfl, rfl, rfl⟩

/-! ### The propositions at which the reckoning stands still: what follows is not looked into -/
def RunV (P : Program) (s : Sem Value) (w : World) (K : Value → World → Prop) (_ : Tag K := .mk) : Prop := ∃ v w', s.run P w = .ok v w' ∧ K v w'
/-- a call comes back -/
def Ret (P : Program) (f : FuncId) (args : Array Value) (w : World) (R : Value → World → Prop) (_ : Tag R := .mk) : Prop :=
  Calls P f args w fun e w' => ∃ v, e = .returned v ∧ R v w'
def GuardP (v : Value) (want : Bool) (A B : Prop) (_ : Tag A := .mk) (_ : Tag B := .mk) : Prop := (v = .bool want → A) ∧ (v ≠ .bool want → B)
def CondP (v : Value) (A B : Prop) (_ : Tag A := .mk) (_ : Tag B := .mk) : Prop := (v = .bool true → A) ∧ (v = .bool false → B) ∧ ∃ b, v = .bool b


theorem CondP.t {A B : Prop} : CondP (.bool true) A B = A := by simp [CondP]
theorem CondP.f {A B : Prop} : CondP (.bool false) A B = B := by simp [CondP]
theorem CondP.split {c : Bool} {A B : Prop} (h1 : c = true → A) (h2 : c = false → B) : CondP (.bool c) A B :=
  ⟨fun h => h1 (by cases h; rfl), fun h => h2 (by cases h; rfl), c, rfl⟩
theorem GuardP.tt {A B : Prop} : GuardP (.bool true) true A B = A := by simp [GuardP]
theorem GuardP.ff {A B : Prop} : GuardP (.bool false) false A B = A := by simp [GuardP]
theorem GuardP.tf {A B : Prop} : GuardP (.bool true) false A B = B := by simp [GuardP]
theorem GuardP.ft {A B : Prop} : GuardP (.bool false) true A B = B := by simp [GuardP]
theorem GuardP.undef {c : Bool} {A B : Prop} : GuardP undef c A B = B := by simp [GuardP, Go.undef]
theorem GuardP.undef' {c : Bool} {A B : Prop} : GuardP (.tuple #[]) c A B = B := by simp [GuardP]

theorem Ret.mono {P : Program} {f : FuncId} {args : Array Value} {w : World} {R R' : Value → World → Prop} (h : Ret P f args w R) (hr : ∀ v w', R v w' → R' v w') : Ret P f args w R' :=
  Calls.mono h fun _ _ ⟨v, e, r⟩ => ⟨v, e, hr v _ r⟩

/-! ### Addresses -/
/-- so many cells on -/
def sh (a : Option Addr) (k : Nat) : Option Addr := a.map (·.add k)
theorem Addr_add_add (a : Addr) (n m : Nat) : (a.add n).add m = a.add (n + m) := by
  unfold Addr.add
  by_cases h1 : n = 0
  · subst h1; simp
  · by_cases h2 : m = 0
    · subst h2; simp [h1]
    · simp [h1, h2, Nat.add_assoc]
theorem sh_sh (a : Option Addr) (k m : Nat) : sh (sh a k) m = sh a (k + m) := by cases a <;> simp [sh, Addr_add_add]
theorem sh_zero (a : Option Addr) : sh a 0 = a := by cases a <;> simp [sh, Addr.add]
theorem sh_isSome (a : Option Addr) (k : Nat) : (sh a k).isSome = a.isSome := by cases a <;> rfl

/-! ### The value of an operand: slots below n lie in loc, the others, of late, in tmp -/
def lk (base : Nat → Value) : List (Nat × Value) → Nat → Value
  | [], t => base t
  | (s, v) :: r, t => if t = s then v else lk base r t
def ev (n : Nat) (base : Nat → Value) (loc : List Value) (tmp : List (Nat × Value)) : Operand → Value
  | .tmp t => if t < n then loc.getD t undef else lk base tmp t
  | .const v => v
  | .global g => .pointer (some ⟨g, 0, none⟩)
  | .func f => .func (.func f) #[] #[]

def Agree (n : Nat) (base : Nat → Value) (loc : List Value) (tmp : List (Nat × Value)) (a : Act) : Prop :=
  loc.length = n ∧ n ≤ a.tmps.size ∧ (∀ t, t < n → a.tmps.getD t undef = loc.getD t undef) ∧ (∀ t, n ≤ t → a.tmps.getD t undef = lk base tmp t)

theorem Agree.ev {n : Nat} {base : Nat → Value} {loc : List Value} {tmp : List (Nat × Value)} {a : Act} (h : Agree n base loc tmp a) : a.eval = ev n base loc tmp := by
  funext x
  cases x with
  | tmp t =>
    simp only [Act.eval, Go.E.ev]
    by_cases ht : t < n
    · rw [if_pos ht]; exact h.2.2.1 t ht
    · rw [if_neg ht]; exact h.2.2.2 t (Nat.le_of_not_lt ht)
  | _ => rfl

/-- what follows: the marks of this frame; the slots; the world -/
abbrev Kont := List Nat → List Value → List (Nat × Value) → World → Prop

/-- a value into a slot -/
def putK (n : Nat) (d : Option Tmp) (v : Value) (loc : List Value) (tmp : List (Nat × Value)) (K : List Value → List (Nat × Value) → Prop) (_ : Tag K := .mk) : Prop :=
  match d with
  | none => K loc tmp
  | some d => if d < n then K (loc.set d v) tmp else K loc ((d, v) :: tmp)

theorem Agree.put {n : Nat} {base : Nat → Value} {loc : List Value} {tmp : List (Nat × Value)} {a : Act} (h : Agree n base loc tmp a) {d : Option Tmp} (hd : ∀ t, d = some t → t < a.tmps.size) (v : Value)
    {K : List Value → List (Nat × Value) → Prop} (hk : putK n d v loc tmp K) : ∃ loc' tmp', Agree n base loc' tmp' (a.put d v) ∧ K loc' tmp' := by
  obtain ⟨h1, h2, h3, h4⟩ := h
  cases d with
  | none => exact ⟨loc, tmp, ⟨h1, h2, h3, h4⟩, hk⟩
  | some d =>
    have hlt := hd d rfl
    have e : ∀ t, (a.tmps.setIfInBounds d v).getD t undef = if t = d then v else a.tmps.getD t undef := by
      intro t
      by_cases ht : t = d
      · subst ht; simp [hlt]
      · rw [if_neg ht]; simp [Array.getElem?_setIfInBounds_ne (Ne.symm ht)]
    simp only [putK] at hk
    by_cases hn : d < n
    · rw [if_pos hn] at hk
      refine ⟨_, _, ⟨by simp [h1], by simp [Act.put, h2], fun t ht => ?_, fun t ht => ?_⟩, hk⟩
      · simp only [Act.put]
        rw [e]
        by_cases hd' : t = d
        · subst hd'; simp [h1, ht]
        · rw [if_neg hd', h3 t ht]; simp [List.getElem?_set_ne (Ne.symm hd')]
      · simp only [Act.put]
        rw [e, if_neg (fun he : t = d => Nat.not_lt.2 ht (by rw [he]; exact hn))]
        exact h4 t ht
    · rw [if_neg hn] at hk
      refine ⟨_, _, ⟨h1, by simp [Act.put, h2], fun t ht => ?_, fun t ht => ?_⟩, hk⟩
      · simp only [Act.put]
        rw [e, if_neg (fun he : t = d => hn (by rw [← he]; exact ht))]
        exact h3 t ht
      · simp only [Act.put, lk]
        rw [e]
        by_cases hd' : t = d
        · rw [if_pos hd', if_pos hd']
        · rw [if_neg hd', if_neg hd']; exact h4 t ht

/-! ### Operations -/
def cmpV (op : BinOp) (x y : Int) : Option Bool :=
  match op with
  | .eql => some (decide (x = y))
  | .neq => some (!decide (x = y))
  | .lss => some (decide (x < y))
  | .leq => some (decide (x ≤ y))
  | .gtr => some (decide (y < x))
  | .geq => some (decide (y ≤ x))
  | _ => none
def bitV (op : BinOp) (k : IntKind) (x y : Int) : Option Int :=
  match op with
  | .and => some (k.wrap (BitVec.ofInt k.bits x &&& BitVec.ofInt k.bits y).toNat)
  | .or => some (k.wrap (BitVec.ofInt k.bits x ||| BitVec.ofInt k.bits y).toNat)
  | .xor => some (k.wrap (BitVec.ofInt k.bits x ^^^ BitVec.ofInt k.bits y).toNat)
  | .andNot => some (k.wrap (BitVec.ofInt k.bits x &&& ~~~ BitVec.ofInt k.bits y).toNat)
  | _ => none
/-- two integers of one kind -/
def intV (op : BinOp) (k : IntKind) (x y : Int) (K : Value → Prop) (_ : Tag K := .mk) : Prop :=
  match op with
  | .add => K (.int k (k.wrap (x + y)))
  | .sub => K (.int k (k.wrap (x - y)))
  | .mul => K (.int k (k.wrap (x * y)))
  | .quo => y ≠ 0 ∧ K (.int k (k.wrap (x.tdiv y)))
  | .rem => y ≠ 0 ∧ K (.int k (x.tmod y))
  | .shl | .shr => False
  | op => match cmpV op x y with
    | some b => K (.bool b)
    | none => match bitV op k x y with
      | some r => K (.int k r)
      | none => False
/-- a shift: 0 ≤ y -/
def shiftV (op : BinOp) (k : IntKind) (x y : Int) (K : Value → Prop) (_ : Tag K := .mk) : Prop :=
  match op with
  | .shl => 0 ≤ y ∧ K (.int k (k.wrap (x * 2 ^ (min y.toNat k.bits))))
  | .shr => 0 ≤ y ∧ K (.int k (x.fdiv (2 ^ (min y.toNat k.bits))))
  | _ => False

/-! F: what must be shown of a run that is not reckoned here; K: of the value. -/
def bolV (d : TypeDesc) (A : Prop) (_ : Tag A := .mk) : Prop := match d with
  | .bool => A
  | _ => False
def pntV (d : TypeDesc) (A : Prop) (_ : Tag A := .mk) : Prop := match d with
  | .pointer _ => A
  | _ => False
def binV (P : Program) (op : BinOp) (t : TypeId) (x y : Value) (xo yo : Operand) (F : Sem Value → Prop) (K : Value → Prop) (_ : Tag F := .mk) (_ : Tag K := .mk) : Prop :=
  match op, x, y with
  | .shl, .int k a, .int _ b => shiftV .shl k a b K
  | .shr, .int k a, .int _ b => shiftV .shr k a b K
  | op, .int k a, .int k' b => k = k' ∧ intV op k a b K
  | .eql, .bool a, .bool b => bolV (tk P t) (K (.bool (a == b)))
  | .neq, .bool a, .bool b => bolV (tk P t) (K (.bool (!(a == b))))
  | .eql, .pointer a, .pointer none => pntV (tk P t) (K (.bool a.isNone))
  | .neq, .pointer a, .pointer none => pntV (tk P t) (K (.bool (!a.isNone)))
  | op, x, y => F (do eqGuard op t xo yo x y; binOp op t x y)

def ptrV (v : Value) (K : Option Addr → Prop) (_ : Tag K := .mk) : Prop :=
  match v with
  | .pointer a => K a
  | _ => False

def lenV (P : Program) (d : TypeDesc) (ts : Array TypeId) (xs : List Value) (ty : TypeId) (F : Sem Value → Prop) (K : Value → Prop) (_ : Tag F := .mk) (_ : Tag K := .mk) : Prop :=
  match d, xs with
  | .slice _, [.slice _ n _] => K (.int .i64 n)
  | .string, [.string s] => K (.int .i64 s.size)
  | .array n _, [_] => K (.int .i64 n)
  | _, xs => F (Builtin.len_ ts ty xs.toArray)

def builtinV (P : Program) (b : Builtin) (ts : Array TypeId) (ty : TypeId) (args : List Value) (F : Sem Value → Prop) (K : Value → Prop) (_ : Tag F := .mk) (_ : Tag K := .mk) : Prop :=
  match b with
  | .len => if ts.size = 0 then False else lenV P (tk P (ts.getD 0 0)) ts args ty F K
  | .append => F (Builtin.append_ ts ty args.toArray)
  | .cap => F (Builtin.cap_ ts ty args.toArray)
  | .clear => F (Builtin.clear_ ts ty args.toArray)
  | .copy => F (Builtin.copy_ ts ty args.toArray)
  | .delete => F (Builtin.delete_ ts ty args.toArray)
  | .max => F (Builtin.max_ ts ty args.toArray)
  | .min => F (Builtin.min_ ts ty args.toArray)
  | _ => False

/-- has the function a body that is entered? -/
def entered (P : Program) (f : FuncId) : Bool :=
  match P.funcs[f]? with
  | none => false
  | some fn => fn.name != "runtime.NumGoroutine" && fn.body.isSome
/-- a call of yield: one round -/
def Yld (P : Program) (l : Nat) (args : Array Value) (w : World) (K : Value → World → Prop) (_ : Tag K := .mk) : Prop :=
  ∃ fn tmps assign body, (Instr.yield l args).run P w = .ok (.round l fn tmps assign body) w ∧ RoundIn Fence.wide 0 P l fn tmps assign body w fun e w' => ∃ v, e = .returned v ∧ K v w'
def callE (e : Bool) (P : Program) (g : FuncId) (args : Array Value) (w : World) (K : Value → World → Prop) (_ : Tag K := .mk) : Prop :=
  match e with
  | true => Ret P g args w K
  | false => RunV P (do match ← callFunc g args with | .value v => pure v | _ => stuck "") w K
def callV (P : Program) (f : Value) (args : List Value) (w : World) (K : Value → World → Prop) (_ : Tag K := .mk) : Prop :=
  match f with
  | .func (.func g) first captured => callE (entered P g) P g (first ++ args.toArray ++ captured) w K
  | .func (.yield l) first _ => Yld P l (first ++ args.toArray) w K
  | _ => False

def slV (sz : Nat) (x i : Value) (F : Prop) (K : Value → Prop) (_ : Tag F := .mk) (_ : Tag K := .mk) : Prop :=
  match x, i with
  | .slice a n _, .int _ i => if sz = 0 then False else (0 ≤ i ∧ i < n ∧ a.isSome = true) ∧ K (.pointer (sh a (i.toNat * sz)))
  | _, _ => F

def storeV (t : TypeId) (a x : Value) (F : Sem Value → Prop) (_ : Tag F := .mk) : Prop := ptrV a fun p => F (do Instr.storeAt t (.pointer p) x; pure undef)
def unV (op : UnOp) (x : Value) (F : Sem Value → Prop) (K : Value → Prop) (_ : Tag F := .mk) (_ : Tag K := .mk) : Prop :=
  match op, x with
  | .not, .bool b => K (.bool (!b))
  | .neg, .int k x => K (.int k (k.wrap (0 - x)))
  | op, v => F (Op.unary op v)
def convV (d e : TypeDesc) (s t : TypeId) (x : Value) (F : Sem Value → Prop) (K : Value → Prop) (_ : Tag F := .mk) (_ : Tag K := .mk) : Prop :=
  match d, e, x with
  | .int _, .int k, .int _ n => K (.int k (k.wrap n))
  | _, _, v => F (convert s t v)
def fldV (o : Option Nat) (x : Value) (K : Value → Prop) (_ : Tag K := .mk) : Prop :=
  ptrV x fun p => match o with
    | some off => p.isSome = true ∧ K (.pointer (sh p off))
    | none => False
def idxV (P : Program) (d : TypeDesc) (t : TypeId) (x i : Value) (F : Sem Value → Prop) (K : Value → Prop) (_ : Tag F := .mk) (_ : Tag K := .mk) : Prop :=
  match d with
  | .slice e => slV (tsz P e) x i (F (Instr.indexAt t x i)) K
  | _ => F (Instr.indexAt t x i)
def extO (o : Option Value) (K : Value → Prop) (_ : Tag K := .mk) : Prop := match o with
  | some v => K v
  | none => False
def extV (x : Value) (i : Nat) (K : Value → Prop) (_ : Tag K := .mk) : Prop :=
  match x with
  | .tuple vs => extO vs.toList[i]? K
  | _ => False
def mkiV (d : TypeDesc) (t : TypeId) (x : Value) (K : Value → Prop) (_ : Tag K := .mk) : Prop :=
  match d with
  | .interface _ => False
  | .invalid => False
  | _ => K (.iface t x)

/-- one operation that calls no function of Go -/
def valV (P : Program) (ρ : Operand → Value) (o : Op) (ty : TypeId) (G : Value → List Value → Prop) (F : Sem Value → Prop) (K : Value → Prop) (_ : Tag G := .mk) (_ : Tag F := .mk) (_ : Tag K := .mk) : Prop :=
  match o with
  | .move x => K (ρ x)
  | .assign x => K (ρ x)
  | .pick c a b => CondP (ρ c) (K (ρ a)) (K (ρ b))
  | .alloc e => F (Instr.alloc e true (.tuple #[]))
  | .box e x => F (Instr.box e (ρ x))
  | .build t ps => F (Instr.build t (ps.map fun (i, x) => (i, ρ x)))
  | .buildSlice t n ps => F (Instr.buildSlice t n (ps.map fun (i, x) => (i, ρ x)))
  | .load t a => ptrV (ρ a) fun p => F (Instr.loadAt t (.pointer p))
  | .store t a x => storeV t (ρ a) (ρ x) F
  | .nilCheck x => ptrV (ρ x) fun p => p.isSome = true ∧ K (.pointer p)
  | .binOp op t x y _ => binV P op t (ρ x) (ρ y) x y F K
  | .unOp op _ x => unV op (ρ x) F K
  | .convert s t x => convV (tk P s) (tk P t) s t (ρ x) F K
  | .makeSlice t l c => F (Instr.makeSlice t (ρ l) (ρ c))
  | .slice t x lo hi mx => F (Instr.sliceAt t (ρ x) (lo.map ρ) (hi.map ρ) (mx.map ρ))
  | .fieldAddr s x f => fldV (tfo P s f) (ρ x) K
  | .field t x f => F (Instr.field t (ρ x) f)
  | .indexAddr t x i => idxV P (tk P t) t (ρ x) (ρ i) F K
  | .index t x i => F (Instr.index t (ρ x) (ρ i))
  | .extract t i => extV (ρ t) i K
  | .makeFunc f first cap => K (.func f (first.map ρ) (cap.map ρ))
  | .makeInterface t x => mkiV (tk P t) t (ρ x) K
  | .typeAssert x t u ok => F (Instr.typeAssert (ρ x) t u ok)
  | .makeMap t r => F (Instr.makeMap t (r.map ρ))
  | .lookup t x i ok => F (Instr.lookup t (ρ x) (ρ i) ok)
  | .mapUpdate t m k x => F (do Instr.mapUpdate t (ρ m) (ρ k) (ρ x); pure undef)
  | .insert t m k x => F (do Instr.mapUpdate t (ρ m) (ρ k) (ρ x); pure undef)
  | .mapEntry t m k => F (Instr.mapEntry t (ρ m) (ρ k))
  | .entryStore t m s x => F (do Instr.entryStore t (ρ m) (ρ s) (ρ x); pure undef)
  | .range t x => F (Instr.range t (ρ x))
  | .next it s => F (Instr.next (ρ it) s ty)
  | .entry it => F (Instr.entry (ρ it))
  | .call c => (match c.callee with
    | .builtin b => builtinV P b c.argTypes ty (c.args.toList.map ρ) F K
    | .value f => G (ρ f) (c.args.toList.map ρ)
    | .invoke _ _ => False)
  | _ => False

def opV (P : Program) (ρ : Operand → Value) (o : Op) (ty : TypeId) (w : World) (K : Value → World → Prop) (_ : Tag K := .mk) : Prop :=
  valV P ρ o ty (fun f args => callV P f args w K) (fun s => RunV P s w K) (fun v => K v w)


theorem shiftV_run {P : Program} {op : BinOp} {k yk : IntKind} {x y : Int} {K : Value → Prop} (h : shiftV op k x y K) : ∃ v, (∀ w, (Op.shift op k x yk y).run P w = .ok v w) ∧ K v := by
  cases op <;> simp only [shiftV] at h <;> first | exact h.elim | skip
  · exact ⟨_, fun w => by simp [Op.shift, show ¬ y < 0 by omega], h.2⟩
  · exact ⟨_, fun w => by simp [Op.shift, show ¬ y < 0 by omega], h.2⟩

theorem intV_run {P : Program} {op : BinOp} {k : IntKind} {x y : Int} {t : TypeId} {K : Value → Prop} (h : intV op k x y K) : ∃ v, (∀ w, (binOp op t (.int k x) (.int k y)).run P w = .ok v w) ∧ K v := by
  cases op <;> simp only [intV, cmpV, bitV] at h <;> first
    | exact h.elim
    | (refine ⟨_, fun w => ?_, h⟩; simp only [binOp]; rw [if_neg (by simp)]; rfl)
    | (refine ⟨_, fun w => ?_, h.2⟩; simp [binOp, Op.intDiv, h.1]; done)

theorem tis_of {d : TypeDesc} {P : Program} {t : TypeId} (h : tk P t = d) (hd : tis d = true) : (underlying t).run P = fun w => .ok d w := by
  funext w; rw [← h]; exact run_underlying_tk (by rw [h]; exact hd) w

theorem RunV.of_ok {P : Program} {s : Sem Value} {w w' : World} {v : Value} {K : Value → World → Prop} (h : s.run P w = .ok v w') (hk : K v w') : RunV P s w K := ⟨v, w', h, hk⟩

/-- an operation's two ways: its value is reckoned; or its run is handed on -/
def Ways (P : Program) (x : Sem Next) (F : Sem Value → Prop) (K : Value → Prop) : Prop :=
  (∃ v, K v ∧ ∀ w, x.run P w = .ok (.value v) w) ∨
  (∃ s, F s ∧ ∀ w v w', s.run P w = .ok v w' → x.run P w = .ok (.value v) w' ∨ (x.run P w = .ok .skip w' ∧ v = undef))
theorem Ways.value {P : Program} {x : Sem Next} {F : Sem Value → Prop} {K : Value → Prop} {v : Value} (h : K v) (hr : ∀ w, x.run P w = .ok (.value v) w) : Ways P x F K := .inl ⟨v, h, hr⟩
theorem Ways.run {P : Program} {F : Sem Value → Prop} {K : Value → Prop} {s : Sem Value} (h : F s) : Ways P (do pure (.value (← s)) : Sem Next) F K :=
  .inr ⟨s, h, fun w v w' hr => .inl (by simp [hr])⟩
theorem Ways.val {P : Program} {F : Sem Value → Prop} {K : Value → Prop} {s : Sem Value} {v : Value} (h : K v) (hr : ∀ w, s.run P w = .ok v w) : Ways P (do pure (.value (← s)) : Sem Next) F K :=
  .inl ⟨v, h, fun w => by simp [hr w]⟩
theorem Ways.unit {P : Program} {F : Sem Value → Prop} {K : Value → Prop} {s : Sem Unit} (h : F (do s; pure undef)) : Ways P (do s; pure .skip : Sem Next) F K := by
  refine .inr ⟨_, h, fun w v w' hr => .inr ?_⟩
  simp only [Sem.run_bind] at hr
  cases hs : s.run P w with
  | halt x w'' => rw [hs] at hr; simp [Result.andThen] at hr
  | ok u w'' =>
    rw [hs] at hr
    simp [Result.andThen] at hr
    obtain ⟨rfl, rfl⟩ := hr
    simp [hs]

theorem run_equal_bool {P : Program} {t : TypeId} (w : World) (a b : Bool) (ht : tk P t = .bool) : (Op.equal t (.bool a) (.bool b)).run P w = .ok (a == b) w := by
  unfold Op.equal
  rw [show Op.maxDepth = 9999 + 1 from rfl, Op.equalIn]
  simp only [Sem.run_bind, tis_of ht rfl]
  rfl
theorem run_equal_ptr {P : Program} {t e : TypeId} (w : World) (a : Option Addr) (ht : tk P t = .pointer e) : (Op.equal t (.pointer a) (.pointer none)).run P w = .ok a.isNone w := by
  unfold Op.equal
  rw [show Op.maxDepth = 9999 + 1 from rfl, Op.equalIn]
  simp only [Sem.run_bind, tis_of ht rfl]
  cases a <;> rfl

theorem run_guarded {P : Program} {g : Sem Unit} {s : Sem Value} {w : World} {v : Value} (hg : g.run P w = .ok () w) (h : s.run P w = .ok v w) : (do g; s : Sem Value).run P w = .ok v w := by
  simp [Sem.run_bind, hg, h]

theorem binV_ways {P : Program} {op : BinOp} {t : TypeId} {x y : Value} {xo yo : Operand} {F : Sem Value → Prop} {K : Value → Prop} (h : binV P op t x y xo yo F K) :
    Ways P (do pure (.value (← (do eqGuard op t xo yo x y; binOp op t x y))) : Sem Next) F K := by
  unfold binV at h
  split at h
  · obtain ⟨v, hr, hk⟩ := shiftV_run (P := P) (yk := by assumption) h
    exact Ways.val hk fun w => run_guarded (by simp [eqGuard]) (by simpa [binOp] using hr w)
  · obtain ⟨v, hr, hk⟩ := shiftV_run (P := P) (yk := by assumption) h
    exact Ways.val hk fun w => run_guarded (by simp [eqGuard]) (by simpa [binOp] using hr w)
  · obtain ⟨rfl, h⟩ := h
    obtain ⟨v, hr, hk⟩ := intV_run (P := P) (t := t) h
    exact Ways.val hk fun w => run_guarded (by unfold eqGuard; split <;> simp) (hr w)
  · unfold bolV at h
    split at h
    rotate_left
    · exact h.elim
    rename_i ht
    exact Ways.val h fun w => run_guarded (by simp [eqGuard]) (by simp only [binOp, Sem.run_bind, run_equal_bool w _ _ ht]; rfl)
  · unfold bolV at h
    split at h
    rotate_left
    · exact h.elim
    rename_i ht
    exact Ways.val h fun w => run_guarded (by simp [eqGuard]) (by simp only [binOp, Sem.run_bind, run_equal_bool w _ _ ht]; rfl)
  · unfold pntV at h
    split at h
    rotate_left
    · exact h.elim
    rename_i ht
    exact Ways.val h fun w => run_guarded (by simp [eqGuard]) (by simp only [binOp, Sem.run_bind, run_equal_ptr w _ ht]; rfl)
  · unfold pntV at h
    split at h
    rotate_left
    · exact h.elim
    rename_i ht
    exact Ways.val h fun w => run_guarded (by simp [eqGuard]) (by simp only [binOp, Sem.run_bind, run_equal_ptr w _ ht]; rfl)
  · exact Ways.run h

theorem lenV_ways {P : Program} {ts : Array TypeId} {xs : List Value} {ty : TypeId} {F : Sem Value → Prop} {K : Value → Prop} (hts : ts.size ≠ 0) (h : lenV P (tk P (ts.getD 0 0)) ts xs ty F K) :
    Ways P (do pure (.value (← Builtin.len_ ts ty xs.toArray)) : Sem Next) F K := by
  obtain ⟨t, h0⟩ : ∃ t, ts[0]? = some t := by
    have : 0 < ts.size := by omega
    exact ⟨ts[0], by simp [this]⟩
  have h1 : ts.getD 0 0 = t := by simp [h0]
  unfold lenV at h
  rw [h1] at h
  split at h
  · rename_i ht
    exact Ways.val h fun w => by simp [Builtin.len_, h0, tis_of ht rfl]; rfl
  · rename_i ht
    exact Ways.val h fun w => by simp [Builtin.len_, h0, tis_of ht rfl]; rfl
  · rename_i ht
    exact Ways.val h fun w => by simp [Builtin.len_, h0, tis_of ht rfl]; rfl
  · exact Ways.run h

theorem builtinV_ways {P : Program} {b : Builtin} {ts : Array TypeId} {ty : TypeId} {args : List Value} {F : Sem Value → Prop} {K : Value → Prop} {cs : Array Bool} (h : builtinV P b ts ty args F K) :
    Ways P (invoke (.builtin b ts ty cs) args.toArray) F K := by
  cases b <;> simp only [builtinV] at h <;> first
    | exact h.elim
    | exact Ways.run h
    | (split at h
       · exact h.elim
       · rename_i hts
         exact lenV_ways hts h)

theorem ptrV_elim {v : Value} {K : Option Addr → Prop} (h : ptrV v K) : ∃ p, v = .pointer p ∧ K p := by
  cases v <;> first | exact h.elim | exact ⟨_, rfl, h⟩

theorem valV_ways {P : Program} {ρ : Operand → Value} {o : Oper} {G : Value → List Value → Prop} {F : Sem Value → Prop} {K : Value → Prop} (h : valV P ρ o.op o.type G F K) :
    Ways P (execOp ρ o) F K ∨ ∃ f args ts, o.op = .call ⟨.value f, args, ts⟩ ∧ G (ρ f) (args.toList.map ρ) := by
  by_cases hc : ∃ f args ts, o.op = .call ⟨.value f, args, ts⟩
  · obtain ⟨f, args, ts, ho⟩ := hc
    rw [ho] at h
    exact .inr ⟨f, args, ts, ho, h⟩
  refine .inl ?_
  obtain ⟨dst, op, type, pos, after, guard⟩ := o
  cases op <;> simp only [valV] at h <;> (try exact h.elim) <;> simp only [execOp]
  case move x => exact Ways.value h fun w => by simp
  case assign x => exact Ways.value h fun w => by simp
  case pick c a b =>
    obtain ⟨h1, h2, t, ht⟩ := h
    rw [ht] at h1 h2 ⊢
    cases t
    · exact Ways.value (h2 rfl) fun w => by simp [asBool]
    · exact Ways.value (h1 rfl) fun w => by simp [asBool]
  case alloc e => exact Ways.run h
  case box e x => exact Ways.run h
  case build t ps => exact Ways.run h
  case buildSlice t n ps => exact Ways.run h
  case load t a =>
    obtain ⟨p, hp, h⟩ := ptrV_elim h
    rw [hp]; exact Ways.run h
  case store t a x =>
    unfold storeV at h
    obtain ⟨p, hp, h⟩ := ptrV_elim h
    rw [hp]; exact Ways.unit h
  case nilCheck x =>
    obtain ⟨p, hp, h1, h⟩ := ptrV_elim h
    rw [hp]
    cases p with
    | none => cases h1
    | some p => exact Ways.value h fun w => by simp
  case binOp op t x y u => exact binV_ways h
  case unOp op t x =>
    unfold unV at h
    split at h
    · rename_i hx
      rw [hx]
      exact Ways.val h fun w => by simp [Op.unary]
    · rename_i hx
      rw [hx]
      exact Ways.val h fun w => by simp [Op.unary, Op.intArith]
    · exact Ways.run h
  case convert s t x =>
    unfold convV at h
    split at h
    · rename_i hs ht hx
      rw [hx]
      exact Ways.val h fun w => by simp [convert, tis_of hs rfl, tis_of ht rfl, Conv.intToInt]
    · exact Ways.run h
  case makeSlice t l c => exact Ways.run h
  case slice t x lo hi mx => exact Ways.run h
  case fieldAddr s x f =>
    unfold fldV at h
    obtain ⟨p, hp, h⟩ := ptrV_elim h
    rw [hp]
    split at h
    · rename_i off hoff
      obtain ⟨h1, h⟩ := h
      cases p with
      | none => cases h1
      | some p =>
        unfold tfo at hoff
        split at hoff
        · rename_i fs hs
          split at hoff
          · rename_i fd hfd
            split at hoff
            · cases hoff
            · rename_i hz
              cases hoff
              obtain ⟨i, hi, hsz, _⟩ := info_of_tsz hz
              have hz' : i.size ≠ 0 := by rw [hsz]; exact hz
              exact Ways.val h fun w => by simp [Instr.fieldAt, tis_of hs rfl, hfd, Instr.sureAddr, fieldPlace, sizeOf, typeInfo, hi, hz', sh]
          · cases hoff
        · cases hoff
    · exact h.elim
  case field t x f => exact Ways.run h
  case indexAddr t x i =>
    unfold idxV at h
    split at h
    · rename_i e ht
      unfold slV at h
      split at h
      · rename_i a n c k i hx hi
        split at h
        · exact h.elim
        · rename_i hz
          obtain ⟨⟨h1, h2, h3⟩, h⟩ := h
          cases a with
          | none => cases h3
          | some a =>
            rw [hx, hi]
            obtain ⟨inf, hinf, hsz, _⟩ := info_of_tsz hz
            exact Ways.val h fun w => by simp [Instr.indexAt, asIntOf, tis_of ht rfl, h1, h2, sizeOf, typeInfo, hinf, hsz, sh]
      · exact Ways.run h
    · exact Ways.run h
  case index t x i => exact Ways.run h
  case lookup t x i ok => exact Ways.run h
  case makeInterface t x =>
    have key : ∀ d, tk P t = d → tis d = true → (∀ ms, d ≠ .interface ms) → K (.iface t (ρ x)) → Ways P (do pure (.value (← Instr.makeInterface t (ρ x))) : Sem Next) F K := by
      intro d hd hi hn hk
      refine Ways.val hk fun w => ?_
      simp only [Instr.makeInterface, Sem.run_bind, tis_of hd hi]
      cases d <;> simp_all
    unfold mkiV at h
    generalize hd : tk P t = d at h
    cases d <;> first | exact h.elim | exact key _ hd rfl (by simp) h
  case makeFunc f first cap => exact Ways.val h fun w => by simp [Instr.makeFunc]
  case makeMap t r => exact Ways.run h
  case mapUpdate t m k x => exact Ways.unit h
  case insert t m k x => exact Ways.unit h
  case mapEntry t m k => exact Ways.run h
  case entryStore t m s x => exact Ways.unit h
  case range t x => exact Ways.run h
  case next it s => exact Ways.run h
  case entry it => exact Ways.run h
  case typeAssert x t u ok => exact Ways.run h
  case extract t i =>
    unfold extV at h
    split at h
    · rename_i vs hv
      rw [hv]
      unfold extO at h
      split at h
      · rename_i v hvi
        have hvi' : vs[i]? = some v := by rw [← hvi]; simp
        exact Ways.val h fun w => by simp [Instr.extract, hvi']
      · exact h.elim
    · exact h.elim
  case call c =>
    obtain ⟨callee, args, ts⟩ := c
    cases callee with
    | value f => exact (hc ⟨f, args, ts, rfl⟩).elim
    | builtin b =>
      have e : (args.toList.map ρ).toArray = args.map ρ := by rw [← Array.toList_map]
      have := builtinV_ways (cs := args.map fun | .const _ => true | _ => false) h
      rw [e] at this
      exact this
    | invoke r m => exact h.elim

/-- what an operation comes to -/
def StepP (P : Program) (s : Sem Next) (w : World) (K : Value → World → Prop) : Prop :=
  match s.run P w with
  | .ok (.value v) w' => K v w'
  | .ok .skip w' => K undef w'
  | .ok (.enter f args) w' => Ret P f args w' K
  | .ok (.round l fn tmps assign body) w' => RoundIn Fence.wide 0 P l fn tmps assign body w' fun e w'' => ∃ v, e = .returned v ∧ K v w''
  | _ => False

theorem callV_step {P : Program} {f : Value} {args : List Value} {w : World} {K : Value → World → Prop} (h : callV P f args w K) :
    StepP P (do let d ← Deferred.ofValue f args.toArray; invoke d.target d.args) w K := by
  unfold callV at h
  split at h
  · rename_i g first captured
    unfold callE at h
    have e : (do let d ← Deferred.ofValue (.func (.func g) first captured) args.toArray; invoke d.target d.args : Sem Next) = callFunc g (first ++ args.toArray ++ captured) := rfl
    rw [e]
    split at h
    · rename_i he
      unfold entered at he
      have hr : (callFunc g (first ++ args.toArray ++ captured)).run P w = .ok (.enter g (first ++ args.toArray ++ captured)) w := by
        cases hf : P.funcs[g]? with
        | none => rw [hf] at he; cases he
        | some fn =>
          rw [hf] at he
          simp only [Bool.and_eq_true, bne_iff_ne, ne_eq] at he
          obtain ⟨h1, h2⟩ := he
          have h3 : ¬ fn.body = none := by intro hb; rw [hb] at h2; cases h2
          simp [callFunc, hf, h1, h3]
      unfold StepP
      rw [hr]
      exact h
    · obtain ⟨v, w', hr, hk⟩ := h
      simp only [Sem.run_bind] at hr
      unfold StepP
      cases hc : (callFunc g (first ++ args.toArray ++ captured)).run P w with
      | halt x w'' => rw [hc] at hr; simp [Result.andThen] at hr
      | ok nx w'' =>
        rw [hc] at hr
        cases nx <;> simp [Result.andThen, stuck] at hr
        obtain ⟨rfl, rfl⟩ := hr
        exact hk
  · rename_i l first captured
    obtain ⟨fn, tmps, assign, body, hr, hround⟩ := h
    have e : (do let d ← Deferred.ofValue (.func (.yield l) first captured) args.toArray; invoke d.target d.args : Sem Next) = Instr.yield l (first ++ args.toArray) := rfl
    rw [e]
    unfold StepP
    rw [hr]
    exact hround
  · exact h.elim

theorem Ways.step {P : Program} {x : Sem Next} {w : World} {K : Value → World → Prop} (h : Ways P x (fun s => RunV P s w K) (fun v => K v w)) : StepP P x w K := by
  rcases h with ⟨v, hk, hr⟩ | ⟨s, ⟨v, w', hr, hk⟩, hs⟩
  · simp [StepP, hr w, hk]
  · rcases hs w v w' hr with e | ⟨e, rfl⟩
    · simp [StepP, e, hk]
    · simp [StepP, e, hk]

theorem opV_step {P : Program} {ρ : Operand → Value} {o : Oper} {w : World} {K : Value → World → Prop} (h : opV P ρ o.op o.type w K) : StepP P (execOp ρ o) w K := by
  rcases valV_ways h with h | ⟨f, args, ts, ho, h⟩
  · exact h.step
  · obtain ⟨dst, op, type, pos, after, guard⟩ := o
    simp only at ho
    subst ho
    have e : (args.toList.map ρ).toArray = args.map ρ := by rw [← Array.toList_map]
    have := callV_step h
    rw [e] at this
    exact this

/-- in whatever world of the kind I: one value, and the world is left as it is -/
def FloatP (P : Program) (s : Sem Value) (I : World → Prop) (K : Value → Prop) (_ : Tag K := .mk) (_ : Tag I := .mk) : Prop := ∃ v, (∀ w, I w → s.run P w = .ok v w) ∧ K v
def floatV (P : Program) (ρ : Operand → Value) (o : Op) (ty : TypeId) (I : World → Prop) (K : Value → Prop) (_ : Tag K := .mk) (_ : Tag I := .mk) : Prop := valV P ρ o ty (fun _ _ => False) (fun s => FloatP P s I K) K
theorem floatV_run {P : Program} {ρ : Operand → Value} {o : Oper} {I : World → Prop} {K : Value → Prop} (h : floatV P ρ o.op o.type I K) :
    ∃ v, (∀ w, I w → (execOp ρ o).run P w = .ok (.value v) w ∨ ((execOp ρ o).run P w = .ok .skip w ∧ v = undef)) ∧ K v := by
  rcases valV_ways h with h | ⟨_, _, _, _, h⟩
  rotate_left
  · exact h.elim
  rcases h with ⟨v, hk, hr⟩ | ⟨s, ⟨v, hr, hk⟩, hs⟩
  · exact ⟨v, fun w _ => .inl (hr w), hk⟩
  · exact ⟨v, fun w hw => hs w v w (hr w hw), hk⟩
end Go.E
