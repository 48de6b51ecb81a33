/-
  Part 1 of the proof: no statement of its own. No condition but those in each theorem.
-/
import Derived.WalkKit
import Derived.RowKit3
import Derived.RangeFuncLeaves
import Derived.RangeFuncRecord
import Derived.OrdersIn
import Derived.TacticsIn
import Derived.Orders
import Derived.KernelRfl
import Derived.RangeFuncOwn
import Derived.Lib.AppendZeros
import Derived.Laws.Tables
import Derived.Laws.OwnMore
import Derived.WideKeyArgs
import Derived.ProofKit
import Derived.OpenShut
import Derived.Deep.SlicePairs
import Derived.JoinedCond
import Derived.SizedLaws
import Derived.LaidEql
set_option linter.unusedSimpArgs false
set_option linter.unusedVariables false
set_option linter.unusedSectionVars false
set_option maxRecDepth 8000
set_option maxHeartbeats 4000000
namespace Go.E
structure Heap where
 blk : Nat -> Option Obj
 os : Os
 out : Array (Nat × ByteArray)
 cut : Nat -> Option Obj
instance : CoeFun Heap fun _ => Nat -> Option Obj := ⟨Heap.blk⟩
def Heap.le (h h' : Heap) : Prop := (∀ b o, h b = some o -> h' b = some o) /\ h'.os = h.os /\ h'.out = h.out /\ ∀ b o, h b = some o -> h'.cut b = h.cut b
theorem Heap.le_refl (h : Heap) : Heap.le h h := ⟨fun _ _ e => e, rfl, rfl, fun _ _ _ => rfl⟩
theorem Heap.le_trans {a b c : Heap} (h : Heap.le a b) (h' : Heap.le b c) : Heap.le a c := ⟨fun _ _ e => h'.1 _ _ (h.1 _ _ e), h'.2.1.trans h.2.1, h'.2.2.1.trans h.2.2.1, fun b o e => (h'.2.2.2 b o (h.1 _ _ e)).trans (h.2.2.2 b o e)⟩
def Heap.of (Z : Heap) (w : World) : Prop := (∀ b o, Z b = some o -> w.heap[b]? = some o) /\ w.os = Z.os /\ w.output = Z.out
def Held (k : Option Obj) (o : Obj) (x : Option Obj) : Prop := match k with
 | none => x = some o
 | some q => x = some q /\ ∃ c c' T fr, o = .cells c T fr /\ q = .cells c' T fr /\ ∀ (j : Nat) (v : Value), c[j]? = some v -> c'[j]? = some v
theorem Held.ex {k : Option Obj} {o : Obj} {x : Option Obj} (h : Held k o x) : ∃ o', x = some o' := by
 cases k with
 | none => exact ⟨_, h⟩
 | some q => exact ⟨_, h.1⟩
theorem Held.cls {k : Option Obj} {c : Array Value} {T : TypeId} {fr : Nat × Nat} {x : Option Obj} (h : Held k (.cells c T fr) x) : ∃ c', x = some (.cells c' T fr) /\ ∀ (j : Nat) (v : Value), c[j]? = some v -> c'[j]? = some v := by
 cases k with
 | none => exact ⟨_, h, fun _ _ e => e⟩
 | some q => obtain ⟨h, _, c', _, _, e, rfl, g⟩ := h; cases e; exact ⟨c', h, g⟩
def Heap.ofc (Z : Heap) (w : World) : Prop := (∀ b o, Z b = some o -> Held (Z.cut b) o w.heap[b]?) /\ w.os = Z.os /\ w.output = Z.out
def Alike (w' w : World) : Prop := w'.heap = w.heap /\ w'.os = w.os /\ w'.output = w.output
structure Fact where
 holds : Heap -> Prop
 mono : ∀ h h', Heap.le h h' -> holds h -> holds h'
abbrev Chunk := List (Nat × Obj)
abbrev Res := Chunk -> Prop
def Fits : List Res -> List Chunk -> Prop
 | [], [] => True
 | r :: O, c :: cs => r c /\ Fits O cs
 | _, _ => False
def Ctx (w : World) (O : List Res) (L : List Fact) : Prop :=
 ∃ (Z : Heap) (cs : List Chunk),
  Z.of w /\ Fits O cs /\
  (∀ p ∈ cs.flatten, w.heap[p.1]? = some p.2 /\ Z p.1 = none) /\
  (cs.flatten.map (·.1)).Nodup /\ (∀ φ ∈ L, φ.holds Z)
section
variable {w w' : World} {O O' : List Res} {L L' : List Fact} {φ : Fact}
theorem Ctx.fact (h : Ctx w O L) (hm : φ ∈ L) : ∃ Z : Heap, Z.of w /\ φ.holds Z := by
 obtain ⟨Z, cs, h1, _, _, _, h5⟩ := h
 exact ⟨Z, h1, h5 _ hm⟩
theorem Fits.cons_inv {r : Res} {O : List Res} {cs : List Chunk} (h : Fits (r :: O) cs) : ∃ c cs', cs = c :: cs' /\ r c /\ Fits O cs' := by
 cases cs with
 | nil => exact h.elim
 | cons c cs' => exact ⟨c, cs', rfl, h.1, h.2⟩
theorem Ctx.swap {r s : Res} (h : Ctx w (r :: s :: O) L) : Ctx w (s :: r :: O) L := by
 obtain ⟨Z, cs, h1, h2, h3, h4, h5⟩ := h
 obtain ⟨c, cs', rfl, hr, h2'⟩ := h2.cons_inv
 obtain ⟨d, cs'', rfl, hs, h2''⟩ := h2'.cons_inv
 refine ⟨Z, d :: c :: cs'', h1, ⟨hs, hr, h2''⟩, fun p hp => h3 p ?_, ?_, h5⟩
 . simp only [List.flatten_cons, List.mem_append] at hp ⊢
   rcases hp with hp | hp | hp
   . exact .inr (.inl hp)
   . exact .inl hp
   . exact .inr (.inr hp)
 . have hp : List.Perm ((d :: c :: cs'').flatten.map (·.1)) ((c :: d :: cs'').flatten.map (·.1)) := by
    simp only [List.flatten_cons]
    rw [<- List.append_assoc, <- List.append_assoc]
    exact (List.perm_append_comm.append_right _).map _
   exact hp.nodup_iff.2 h4
end
def own (b : Nat) (o : Obj) : Res := fun c => c = [(b, o)]
def blk (b : Nat) (o : Obj) : Fact := ⟨fun Z => Z b = some o, fun _ _ hl h => hl.1 _ _ h⟩
def whole (W : World) : Fact := ⟨fun Z => (∀ b o, W.heap[b]? = some o -> Z b = some o) /\ Z.os = W.os /\ Z.out = W.output, fun _ _ hl h => ⟨fun b o e => hl.1 _ _ (h.1 b o e), hl.2.1.trans h.2.1, hl.2.2.1.trans h.2.2⟩⟩
section
variable {w w' : World} {O : List Res} {L : List Fact} {b : Nat} {o o' : Obj}
theorem heap_alloc (w : World) (o : Obj) (b : Nat) : (w.alloc o).heap[b]? = if b = w.heap.size then some o else w.heap[b]? := by
 by_cases hb : b = w.heap.size
 . subst hb; rw [if_pos rfl]; exact heap_alloc_new w o
 . rw [if_neg hb]
   by_cases hl : b < w.heap.size
   . exact heap_alloc_old w o hl
   . have h1 : w.heap[b]? = none := Array.getElem?_eq_none (by omega)
     have h2 : (w.alloc o).heap[b]? = none := Array.getElem?_eq_none (by simp; omega)
     rw [h1, h2]
theorem Ctx.turn {r r' : Res} (h : Ctx w (r :: O) L) (ho : w'.os = w.os /\ w'.output = w.output)
 (ht : ∀ c, r c -> (∀ p ∈ c, w.heap[p.1]? = some p.2) -> (c.map (·.1)).Nodup -> ∃ c', r' c' /\ (∀ p ∈ c', w'.heap[p.1]? = some p.2) /\ (c'.map (·.1)).Nodup /\
  (∀ b ∈ c'.map (·.1), b ∈ c.map (·.1) ∨ w.heap.size <= b) /\ (∀ b, b < w.heap.size -> b ∉ c.map (·.1) -> w'.heap[b]? = w.heap[b]?)) : Ctx w' (r' :: O) L := by
 obtain ⟨Z, cs, h1, h2, h3, h4, h5⟩ := h
 obtain ⟨c, cs', rfl, hr, h2'⟩ := h2.cons_inv
 simp only [List.flatten_cons, List.map_append] at h4
 have h4' := List.nodup_append.1 h4
 have hlt : ∀ b o', w.heap[b]? = some o' -> b < w.heap.size := fun b o' hb => (Array.getElem?_eq_some_iff.1 hb).1
 have hin : ∀ p ∈ c, w.heap[p.1]? = some p.2 /\ Z p.1 = none := fun p hp => h3 p (by simp only [List.flatten_cons, List.mem_append]; exact .inl hp)
 have hout : ∀ p ∈ cs'.flatten, w.heap[p.1]? = some p.2 /\ Z p.1 = none := fun p hp => h3 p (by simp only [List.flatten_cons, List.mem_append]; exact .inr hp)
 obtain ⟨c', hr', hc', hn', hsub, hkeep⟩ := ht c hr (fun p hp => (hin p hp).1) h4'.1
 have hZc : ∀ b o', Z b = some o' -> b ∉ c.map (·.1) := by
  intro b o' hb hm
  obtain ⟨p, hp, rfl⟩ := List.mem_map.1 hm
  rw [(hin p hp).2] at hb
  cases hb
 refine ⟨Z, c' :: cs', ⟨fun b o' hb => ?_, ho.1.trans h1.2.1, ho.2.trans h1.2.2⟩, ⟨hr', h2'⟩, fun p hp => ?_, ?_, h5⟩
 . rw [hkeep b (hlt _ _ (h1.1 _ _ hb)) (hZc b o' hb)]
   exact h1.1 b o' hb
 . simp only [List.flatten_cons, List.mem_append] at hp
   rcases hp with hp | hp
   . refine ⟨hc' p hp, ?_⟩
     rcases hsub p.1 (List.mem_map_of_mem hp) with hm | hm
     . obtain ⟨q, hq, he⟩ := List.mem_map.1 hm
       rw [<- he]; exact (hin q hq).2
     . cases hg : Z p.1 with
       | none => rfl
       | some o' => have := hlt _ _ (h1.1 _ _ hg); omega
   . refine ⟨?_, (hout p hp).2⟩
     have hnc : p.1 ∉ c.map (·.1) := fun hm => h4'.2.2 p.1 hm p.1 (List.mem_map_of_mem hp) rfl
     rw [hkeep p.1 (hlt _ _ (hout p hp).1) hnc]
     exact (hout p hp).1
 . simp only [List.flatten_cons, List.map_append]
   refine List.nodup_append.2 ⟨hn', h4'.2.1, ?_⟩
   intro x hx y hy hxy
   subst hxy
   obtain ⟨q, hq, he⟩ := List.mem_map.1 hy
   rcases hsub x hx with hm | hm
   . exact h4'.2.2 x hm x hy rfl
   . have := hlt _ _ (hout q hq).1
     omega
theorem Ctx.whole_grown {W : World} (h : Ctx w O L) (hm : whole W ∈ L) : (∀ b, b < W.heap.size -> w.heap[b]? = W.heap[b]?) /\ W.heap.size <= w.heap.size /\ w.os = W.os /\ w.output = W.output := by
 obtain ⟨Z, h1, h2⟩ := h.fact hm
 have key : ∀ b, b < W.heap.size -> w.heap[b]? = W.heap[b]? := by
  intro b hb
  have e : W.heap[b]? = some W.heap[b] := by simp [hb]
  rw [e]
  exact h1.1 _ _ (h2.1 _ _ e)
 refine ⟨key, ?_, h1.2.1.trans h2.2.1, h1.2.2.trans h2.2.2⟩
 rcases Nat.eq_zero_or_pos W.heap.size with h0 | h0
 . omega
 . have e := key (W.heap.size - 1) (by omega)
   have e' : W.heap[W.heap.size - 1]? = some W.heap[W.heap.size - 1] := by simp
   rw [e'] at e
   have := (Array.getElem?_eq_some_iff.1 e).1
   omega
end
end Go.E
namespace Go.E
inductive Tag {α : Sort _} (a : α) : Type
 | mk
def tk (P : Program) (t : TypeId) : TypeDesc := (P.underlying t).getD .invalid
def tsz (P : Program) (t : TypeId) : Nat := ((P.info? t).map (·.size)).getD 0
def tby (P : Program) (t : TypeId) : Nat := ((P.info? t).map (·.bytes)).getD 0
def tzr (P : Program) (t : TypeId) : Option Value := (P.info? t).bind (·.zero)
def tfo (P : Program) (s : TypeId) (f : Nat) : Option Nat :=
 match tk P s with
 | .struct fs => match fs[f]? with
   | some fd => if tsz P fd.type = 0 then none else some fd.offset
   | none => none
 | _ => none
def tagg (d : TypeDesc) : Bool := match d with
 | .struct _ | .array _ _ => true
 | _ => false
def tis (d : TypeDesc) : Bool := match d with
 | .invalid => false
 | _ => true
theorem run_underlying_tk {P : Program} {t : TypeId} (h : tis (tk P t) = true) (w : World) : (underlying t).run P w = .ok (tk P t) w := by
 unfold tk at *
 cases hu : P.underlying t with
 | none => rw [hu] at h; simp [tis] at h
 | some d => simp [run_underlying hu]
theorem underlying_some {P : Program} {t : TypeId} (h : tis (tk P t) = true) : P.underlying t = some (tk P t) := by
 unfold tk at *
 cases hu : P.underlying t with
 | none => rw [hu] at h; simp [tis] at h
 | some d => rfl
theorem info_of_tsz {P : Program} {t : TypeId} (h : tsz P t ≠ 0) : ∃ i, P.info? t = some i /\ i.size = tsz P t /\ i.bytes = tby P t /\ i.zero = tzr P t := by
 unfold tsz tby tzr at *
 cases hi : P.info? t with
 | none => rw [hi] at h; simp at h
 | some i => exact ⟨i, rfl, rfl, rfl, rfl⟩
def RunV (P : Program) (s : Sem Value) (w : World) (K : Value -> World -> Prop) (_ : Tag K := .mk) : Prop := ∃ v w', s.run P w = .ok v w' /\ K v w'
def Ret (P : Program) (f : FuncId) (args : Array Value) (w : World) (R : Value -> World -> Prop) (_ : Tag R := .mk) : Prop :=
 Calls P f args w fun e w' => ∃ v, e = .returned v /\ R v w'
def GuardP (v : Value) (want : Bool) (A B : Prop) (_ : Tag A := .mk) (_ : Tag B := .mk) : Prop := (v = .bool want -> A) /\ (v ≠ .bool want -> B)
def CondP (v : Value) (A B : Prop) (_ : Tag A := .mk) (_ : Tag B := .mk) : Prop := (v = .bool true -> A) /\ (v = .bool false -> B) /\ ∃ b, v = .bool b
theorem CondP.t {A B : Prop} : CondP (.bool true) A B = A := by simp [CondP]
theorem CondP.f {A B : Prop} : CondP (.bool false) A B = B := by simp [CondP]
theorem CondP.split {c : Bool} {A B : Prop} (h1 : c = true -> A) (h2 : c = false -> B) : CondP (.bool c) A B :=
 ⟨fun h => h1 (by cases h; rfl), fun h => h2 (by cases h; rfl), c, rfl⟩
theorem GuardP.tt {A B : Prop} : GuardP (.bool true) true A B = A := by simp [GuardP]
theorem GuardP.ff {A B : Prop} : GuardP (.bool false) false A B = A := by simp [GuardP]
theorem GuardP.tf {A B : Prop} : GuardP (.bool true) false A B = B := by simp [GuardP]
theorem GuardP.ft {A B : Prop} : GuardP (.bool false) true A B = B := by simp [GuardP]
theorem GuardP.undef {c : Bool} {A B : Prop} : GuardP undef c A B = B := by simp [GuardP, Go.undef]
theorem GuardP.undef' {c : Bool} {A B : Prop} : GuardP (.tuple #[]) c A B = B := by simp [GuardP]
theorem Ret.mono {P : Program} {f : FuncId} {args : Array Value} {w : World} {R R' : Value -> World -> Prop} (h : Ret P f args w R) (hr : ∀ v w', R v w' -> R' v w') : Ret P f args w R' :=
 Calls.mono h fun _ _ ⟨v, e, r⟩ => ⟨v, e, hr v _ r⟩
def sh (a : Option Addr) (k : Nat) : Option Addr := a.map (·.add k)
theorem Addr_add_add (a : Addr) (n m : Nat) : (a.add n).add m = a.add (n + m) := by
 unfold Addr.add
 by_cases h1 : n = 0
 . subst h1; simp
 . by_cases h2 : m = 0
   . subst h2; simp [h1]
   . simp [h1, h2, Nat.add_assoc]
theorem sh_sh (a : Option Addr) (k m : Nat) : sh (sh a k) m = sh a (k + m) := by cases a <;> simp [sh, Addr_add_add]
theorem sh_zero (a : Option Addr) : sh a 0 = a := by cases a <;> simp [sh, Addr.add]
theorem sh_isSome (a : Option Addr) (k : Nat) : (sh a k).isSome = a.isSome := by cases a <;> rfl
def lk (base : Nat -> Value) : List (Nat × Value) -> Nat -> Value
 | [], t => base t
 | (s, v) :: r, t => if t = s then v else lk base r t
def ev (n : Nat) (base : Nat -> Value) (loc : List Value) (tmp : List (Nat × Value)) : Operand -> Value
 | .tmp t => if t < n then loc.getD t undef else lk base tmp t
 | .const v => v
 | .global g => .pointer (some ⟨g, 0, none⟩)
 | .func f => .func (.func f) #[] #[]
def Agree (n : Nat) (base : Nat -> Value) (loc : List Value) (tmp : List (Nat × Value)) (a : Act) : Prop :=
 loc.length = n /\ n <= a.tmps.size /\ (∀ t, t < n -> a.tmps.getD t undef = loc.getD t undef) /\ (∀ t, n <= t -> a.tmps.getD t undef = lk base tmp t)
theorem Agree.ev {n : Nat} {base : Nat -> Value} {loc : List Value} {tmp : List (Nat × Value)} {a : Act} (h : Agree n base loc tmp a) : a.eval = ev n base loc tmp := by
 funext x
 cases x with
 | tmp t =>
   simp only [Act.eval, Go.E.ev]
   by_cases ht : t < n
   . rw [if_pos ht]; exact h.2.2.1 t ht
   . rw [if_neg ht]; exact h.2.2.2 t (Nat.le_of_not_lt ht)
 | _ => rfl
abbrev Kont := List Nat -> List Value -> List (Nat × Value) -> World -> Prop
def putK (n : Nat) (d : Option Tmp) (v : Value) (loc : List Value) (tmp : List (Nat × Value)) (K : List Value -> List (Nat × Value) -> Prop) (_ : Tag K := .mk) : Prop :=
 match d with
 | none => K loc tmp
 | some d => if d < n then K (loc.set d v) tmp else K loc ((d, v) :: tmp)
theorem Agree.put {n : Nat} {base : Nat -> Value} {loc : List Value} {tmp : List (Nat × Value)} {a : Act} (h : Agree n base loc tmp a) {d : Option Tmp} (hd : ∀ t, d = some t -> t < a.tmps.size) (v : Value)
 {K : List Value -> List (Nat × Value) -> Prop} (hk : putK n d v loc tmp K) : ∃ loc' tmp', Agree n base loc' tmp' (a.put d v) /\ K loc' tmp' := by
 obtain ⟨h1, h2, h3, h4⟩ := h
 cases d with
 | none => exact ⟨loc, tmp, ⟨h1, h2, h3, h4⟩, hk⟩
 | some d =>
   have hlt := hd d rfl
   have e : ∀ t, (a.tmps.setIfInBounds d v).getD t undef = if t = d then v else a.tmps.getD t undef := by
    intro t
    by_cases ht : t = d
    . subst ht; simp [hlt]
    . rw [if_neg ht]; simp [Array.getElem?_setIfInBounds_ne (Ne.symm ht)]
   simp only [putK] at hk
   by_cases hn : d < n
   . rw [if_pos hn] at hk
     refine ⟨_, _, ⟨by simp [h1], by simp [Act.put, h2], fun t ht => ?_, fun t ht => ?_⟩, hk⟩
     . simp only [Act.put]
       rw [e]
       by_cases hd' : t = d
       . subst hd'; simp [h1, ht]
       . rw [if_neg hd', h3 t ht]; simp [List.getElem?_set_ne (Ne.symm hd')]
     . simp only [Act.put]
       rw [e, if_neg (fun he : t = d => Nat.not_lt.2 ht (by rw [he]; exact hn))]
       exact h4 t ht
   . rw [if_neg hn] at hk
     refine ⟨_, _, ⟨h1, by simp [Act.put, h2], fun t ht => ?_, fun t ht => ?_⟩, hk⟩
     . simp only [Act.put]
       rw [e, if_neg (fun he : t = d => hn (by rw [<- he]; exact ht))]
       exact h3 t ht
     . simp only [Act.put, lk]
       rw [e]
       by_cases hd' : t = d
       . rw [if_pos hd', if_pos hd']
       . rw [if_neg hd', if_neg hd']; exact h4 t ht
def cmpV (op : BinOp) (x y : Int) : Option Bool :=
 match op with
 | .eql => some (decide (x = y))
 | .neq => some (!decide (x = y))
 | .lss => some (decide (x < y))
 | .leq => some (decide (x <= y))
 | .gtr => some (decide (y < x))
 | .geq => some (decide (y <= x))
 | _ => none
def bitV (op : BinOp) (k : IntKind) (x y : Int) : Option Int :=
 match op with
 | .and => some (k.wrap (BitVec.ofInt k.bits x &&& BitVec.ofInt k.bits y).toNat)
 | .or => some (k.wrap (BitVec.ofInt k.bits x ||| BitVec.ofInt k.bits y).toNat)
 | .xor => some (k.wrap (BitVec.ofInt k.bits x ^^^ BitVec.ofInt k.bits y).toNat)
 | .andNot => some (k.wrap (BitVec.ofInt k.bits x &&& ~~~ BitVec.ofInt k.bits y).toNat)
 | _ => none
def intV (op : BinOp) (k : IntKind) (x y : Int) (K : Value -> Prop) (_ : Tag K := .mk) : Prop :=
 match op with
 | .add => K (.int k (k.wrap (x + y)))
 | .sub => K (.int k (k.wrap (x - y)))
 | .mul => K (.int k (k.wrap (x * y)))
 | .quo => y ≠ 0 /\ K (.int k (k.wrap (x.tdiv y)))
 | .rem => y ≠ 0 /\ K (.int k (x.tmod y))
 | .shl | .shr => False
 | op => match cmpV op x y with
   | some b => K (.bool b)
   | none => match bitV op k x y with
     | some r => K (.int k r)
     | none => False
def shiftV (op : BinOp) (k : IntKind) (x y : Int) (K : Value -> Prop) (_ : Tag K := .mk) : Prop :=
 match op with
 | .shl => 0 <= y /\ K (.int k (k.wrap (x * 2 ^ (min y.toNat k.bits))))
 | .shr => 0 <= y /\ K (.int k (x.fdiv (2 ^ (min y.toNat k.bits))))
 | _ => False
def bolV (d : TypeDesc) (A : Prop) (_ : Tag A := .mk) : Prop := match d with
 | .bool => A
 | _ => False
def pntV (d : TypeDesc) (A : Prop) (_ : Tag A := .mk) : Prop := match d with
 | .pointer _ => A
 | _ => False
def binV (P : Program) (op : BinOp) (t : TypeId) (x y : Value) (xo yo : Operand) (F : Sem Value -> Prop) (K : Value -> Prop) (_ : Tag F := .mk) (_ : Tag K := .mk) : Prop :=
 match op, x, y with
 | .shl, .int k a, .int _ b => shiftV .shl k a b K
 | .shr, .int k a, .int _ b => shiftV .shr k a b K
 | op, .int k a, .int k' b => k = k' /\ intV op k a b K
 | .eql, .bool a, .bool b => bolV (tk P t) (K (.bool (a == b)))
 | .neq, .bool a, .bool b => bolV (tk P t) (K (.bool (!(a == b))))
 | .eql, .pointer a, .pointer none => pntV (tk P t) (K (.bool a.isNone))
 | .neq, .pointer a, .pointer none => pntV (tk P t) (K (.bool (!a.isNone)))
 | op, x, y => F (do eqGuard op t xo yo x y; binOp op t x y)
def ptrV (v : Value) (K : Option Addr -> Prop) (_ : Tag K := .mk) : Prop :=
 match v with
 | .pointer a => K a
 | _ => False
def lenV (P : Program) (d : TypeDesc) (ts : Array TypeId) (xs : List Value) (ty : TypeId) (F : Sem Value -> Prop) (K : Value -> Prop) (_ : Tag F := .mk) (_ : Tag K := .mk) : Prop :=
 match d, xs with
 | .slice _, [.slice _ n _] => K (.int .i64 n)
 | .string, [.string s] => K (.int .i64 s.size)
 | .array n _, [_] => K (.int .i64 n)
 | _, xs => F (Builtin.len_ ts ty xs.toArray)
def builtinV (P : Program) (b : Builtin) (ts : Array TypeId) (ty : TypeId) (args : List Value) (F : Sem Value -> Prop) (K : Value -> Prop) (_ : Tag F := .mk) (_ : Tag K := .mk) : Prop :=
 match b with
 | .len => if ts.size = 0 then False else lenV P (tk P (ts.getD 0 0)) ts args ty F K
 | .append => F (Builtin.append_ ts ty args.toArray)
 | .cap => F (Builtin.cap_ ts ty args.toArray)
 | .clear => F (Builtin.clear_ ts ty args.toArray)
 | .copy => F (Builtin.copy_ ts ty args.toArray)
 | .delete => F (Builtin.delete_ ts ty args.toArray)
 | .max => F (Builtin.max_ ts ty args.toArray)
 | .min => F (Builtin.min_ ts ty args.toArray)
 | _ => False
def entered (P : Program) (f : FuncId) : Bool :=
 match P.funcs[f]? with
 | none => false
 | some fn => fn.name != "runtime.NumGoroutine" && fn.body.isSome
def Yld (P : Program) (l : Nat) (args : Array Value) (w : World) (K : Value -> World -> Prop) (_ : Tag K := .mk) : Prop :=
 ∃ fn tmps assign body, (Instr.yield l args).run P w = .ok (.round l fn tmps assign body) w /\ RoundIn Fence.wide 0 P l fn tmps assign body w fun e w' => ∃ v, e = .returned v /\ K v w'
def callE (e : Bool) (P : Program) (g : FuncId) (args : Array Value) (w : World) (K : Value -> World -> Prop) (_ : Tag K := .mk) : Prop :=
 match e with
 | true => Ret P g args w K
 | false => RunV P (do match <- callFunc g args with | .value v => pure v | _ => stuck "") w K
def callV (P : Program) (f : Value) (args : List Value) (w : World) (K : Value -> World -> Prop) (_ : Tag K := .mk) : Prop :=
 match f with
 | .func (.func g) first captured => callE (entered P g) P g (first ++ args.toArray ++ captured) w K
 | .func (.yield l) first _ => Yld P l (first ++ args.toArray) w K
 | _ => False
def slV (sz : Nat) (x i : Value) (F : Prop) (K : Value -> Prop) (_ : Tag F := .mk) (_ : Tag K := .mk) : Prop :=
 match x, i with
 | .slice a n _, .int _ i => if sz = 0 then False else (0 <= i /\ i < n /\ a.isSome = true) /\ K (.pointer (sh a (i.toNat * sz)))
 | _, _ => F
def storeV (t : TypeId) (a x : Value) (F : Sem Value -> Prop) (_ : Tag F := .mk) : Prop := ptrV a fun p => F (do Instr.storeAt t (.pointer p) x; pure undef)
def unV (op : UnOp) (x : Value) (F : Sem Value -> Prop) (K : Value -> Prop) (_ : Tag F := .mk) (_ : Tag K := .mk) : Prop :=
 match op, x with
 | .not, .bool b => K (.bool (!b))
 | .neg, .int k x => K (.int k (k.wrap (0 - x)))
 | op, v => F (Op.unary op v)
def convV (d e : TypeDesc) (s t : TypeId) (x : Value) (F : Sem Value -> Prop) (K : Value -> Prop) (_ : Tag F := .mk) (_ : Tag K := .mk) : Prop :=
 match d, e, x with
 | .int _, .int k, .int _ n => K (.int k (k.wrap n))
 | _, _, v => F (convert s t v)
def fldV (o : Option Nat) (x : Value) (K : Value -> Prop) (_ : Tag K := .mk) : Prop :=
 ptrV x fun p => match o with
  | some off => p.isSome = true /\ K (.pointer (sh p off))
  | none => False
def idxV (P : Program) (d : TypeDesc) (t : TypeId) (x i : Value) (F : Sem Value -> Prop) (K : Value -> Prop) (_ : Tag F := .mk) (_ : Tag K := .mk) : Prop :=
 match d with
 | .slice e => slV (tsz P e) x i (F (Instr.indexAt t x i)) K
 | _ => F (Instr.indexAt t x i)
def extO (o : Option Value) (K : Value -> Prop) (_ : Tag K := .mk) : Prop := match o with
 | some v => K v
 | none => False
def extV (x : Value) (i : Nat) (K : Value -> Prop) (_ : Tag K := .mk) : Prop :=
 match x with
 | .tuple vs => extO vs.toList[i]? K
 | _ => False
def mkiV (d : TypeDesc) (t : TypeId) (x : Value) (K : Value -> Prop) (_ : Tag K := .mk) : Prop :=
 match d with
 | .interface _ => False
 | .invalid => False
 | _ => K (.iface t x)
def valV (P : Program) (ρ : Operand -> Value) (o : Op) (ty : TypeId) (G : Value -> List Value -> Prop) (F : Sem Value -> Prop) (K : Value -> Prop) (_ : Tag G := .mk) (_ : Tag F := .mk) (_ : Tag K := .mk) : Prop :=
 match o with
 | .move x => K (ρ x)
 | .assign x => K (ρ x)
 | .pick c a b => CondP (ρ c) (K (ρ a)) (K (ρ b))
 | .alloc e => F (Instr.alloc e true (.tuple #[]))
 | .box e x => F (Instr.box e (ρ x))
 | .build t ps => F (Instr.build t (ps.map fun (i, x) => (i, ρ x)))
 | .buildSlice t n ps => F (Instr.buildSlice t n (ps.map fun (i, x) => (i, ρ x)))
 | .load t a => ptrV (ρ a) fun p => F (Instr.loadAt t (.pointer p))
 | .store t a x => storeV t (ρ a) (ρ x) F
 | .nilCheck x => ptrV (ρ x) fun p => p.isSome = true /\ K (.pointer p)
 | .binOp op t x y _ => binV P op t (ρ x) (ρ y) x y F K
 | .unOp op _ x => unV op (ρ x) F K
 | .convert s t x => convV (tk P s) (tk P t) s t (ρ x) F K
 | .makeSlice t l c => F (Instr.makeSlice t (ρ l) (ρ c))
 | .slice t x lo hi mx => F (Instr.sliceAt t (ρ x) (lo.map ρ) (hi.map ρ) (mx.map ρ))
 | .fieldAddr s x f => fldV (tfo P s f) (ρ x) K
 | .field t x f => F (Instr.field t (ρ x) f)
 | .indexAddr t x i => idxV P (tk P t) t (ρ x) (ρ i) F K
 | .index t x i => F (Instr.index t (ρ x) (ρ i))
 | .extract t i => extV (ρ t) i K
 | .makeFunc f first cap => K (.func f (first.map ρ) (cap.map ρ))
 | .makeInterface t x => mkiV (tk P t) t (ρ x) K
 | .typeAssert x t u ok => F (Instr.typeAssert (ρ x) t u ok)
 | .makeMap t r => F (Instr.makeMap t (r.map ρ))
 | .lookup t x i ok => F (Instr.lookup t (ρ x) (ρ i) ok)
 | .mapUpdate t m k x => F (do Instr.mapUpdate t (ρ m) (ρ k) (ρ x); pure undef)
 | .insert t m k x => F (do Instr.mapUpdate t (ρ m) (ρ k) (ρ x); pure undef)
 | .mapEntry t m k => F (Instr.mapEntry t (ρ m) (ρ k))
 | .entryStore t m s x => F (do Instr.entryStore t (ρ m) (ρ s) (ρ x); pure undef)
 | .range t x => F (Instr.range t (ρ x))
 | .next it s => F (Instr.next (ρ it) s ty)
 | .entry it => F (Instr.entry (ρ it))
 | .call c => (match c.callee with
   | .builtin b => builtinV P b c.argTypes ty (c.args.toList.map ρ) F K
   | .value f => G (ρ f) (c.args.toList.map ρ)
   | .invoke _ _ => False)
 | _ => False
def opV (P : Program) (ρ : Operand -> Value) (o : Op) (ty : TypeId) (w : World) (K : Value -> World -> Prop) (_ : Tag K := .mk) : Prop :=
 valV P ρ o ty (fun f args => callV P f args w K) (fun s => RunV P s w K) (fun v => K v w)
theorem shiftV_run {P : Program} {op : BinOp} {k yk : IntKind} {x y : Int} {K : Value -> Prop} (h : shiftV op k x y K) : ∃ v, (∀ w, (Op.shift op k x yk y).run P w = .ok v w) /\ K v := by
 cases op <;> simp only [shiftV] at h <;> first | exact h.elim | skip
 . exact ⟨_, fun w => by simp [Op.shift, show ¬ y < 0 by omega], h.2⟩
 . exact ⟨_, fun w => by simp [Op.shift, show ¬ y < 0 by omega], h.2⟩
theorem intV_run {P : Program} {op : BinOp} {k : IntKind} {x y : Int} {t : TypeId} {K : Value -> Prop} (h : intV op k x y K) : ∃ v, (∀ w, (binOp op t (.int k x) (.int k y)).run P w = .ok v w) /\ K v := by
 cases op <;> simp only [intV, cmpV, bitV] at h <;> first
  | exact h.elim
  | (refine ⟨_, fun w => ?_, h⟩; simp only [binOp]; rw [if_neg (by simp)]; rfl)
  | (refine ⟨_, fun w => ?_, h.2⟩; simp [binOp, Op.intDiv, h.1]; done)
theorem tis_of {d : TypeDesc} {P : Program} {t : TypeId} (h : tk P t = d) (hd : tis d = true) : (underlying t).run P = fun w => .ok d w := by
 funext w; rw [<- h]; exact run_underlying_tk (by rw [h]; exact hd) w
theorem RunV.of_ok {P : Program} {s : Sem Value} {w w' : World} {v : Value} {K : Value -> World -> Prop} (h : s.run P w = .ok v w') (hk : K v w') : RunV P s w K := ⟨v, w', h, hk⟩
def Ways (P : Program) (x : Sem Next) (F : Sem Value -> Prop) (K : Value -> Prop) : Prop :=
 (∃ v, K v /\ ∀ w, x.run P w = .ok (.value v) w) ∨
 (∃ s, F s /\ ∀ w v w', s.run P w = .ok v w' -> x.run P w = .ok (.value v) w' ∨ (x.run P w = .ok .skip w' /\ v = undef))
theorem Ways.value {P : Program} {x : Sem Next} {F : Sem Value -> Prop} {K : Value -> Prop} {v : Value} (h : K v) (hr : ∀ w, x.run P w = .ok (.value v) w) : Ways P x F K := .inl ⟨v, h, hr⟩
theorem Ways.run {P : Program} {F : Sem Value -> Prop} {K : Value -> Prop} {s : Sem Value} (h : F s) : Ways P (do pure (.value (<- s)) : Sem Next) F K :=
 .inr ⟨s, h, fun w v w' hr => .inl (by simp [hr])⟩
theorem Ways.val {P : Program} {F : Sem Value -> Prop} {K : Value -> Prop} {s : Sem Value} {v : Value} (h : K v) (hr : ∀ w, s.run P w = .ok v w) : Ways P (do pure (.value (<- s)) : Sem Next) F K :=
 .inl ⟨v, h, fun w => by simp [hr w]⟩
theorem Ways.unit {P : Program} {F : Sem Value -> Prop} {K : Value -> Prop} {s : Sem Unit} (h : F (do s; pure undef)) : Ways P (do s; pure .skip : Sem Next) F K := by
 refine .inr ⟨_, h, fun w v w' hr => .inr ?_⟩
 simp only [Sem.run_bind] at hr
 cases hs : s.run P w with
 | halt x w'' => rw [hs] at hr; simp [Result.andThen] at hr
 | ok u w'' =>
   rw [hs] at hr
   simp [Result.andThen] at hr
   obtain ⟨rfl, rfl⟩ := hr
   simp [hs]
theorem run_equal_bool {P : Program} {t : TypeId} (w : World) (a b : Bool) (ht : tk P t = .bool) : (Op.equal t (.bool a) (.bool b)).run P w = .ok (a == b) w := by
 unfold Op.equal
 rw [show Op.maxDepth = 9999 + 1 from rfl, Op.equalIn]
 simp only [Sem.run_bind, tis_of ht rfl]
 rfl
theorem run_equal_ptr {P : Program} {t e : TypeId} (w : World) (a : Option Addr) (ht : tk P t = .pointer e) : (Op.equal t (.pointer a) (.pointer none)).run P w = .ok a.isNone w := by
 unfold Op.equal
 rw [show Op.maxDepth = 9999 + 1 from rfl, Op.equalIn]
 simp only [Sem.run_bind, tis_of ht rfl]
 cases a <;> rfl
theorem run_guarded {P : Program} {g : Sem Unit} {s : Sem Value} {w : World} {v : Value} (hg : g.run P w = .ok () w) (h : s.run P w = .ok v w) : (do g; s : Sem Value).run P w = .ok v w := by
 simp [Sem.run_bind, hg, h]
theorem binV_ways {P : Program} {op : BinOp} {t : TypeId} {x y : Value} {xo yo : Operand} {F : Sem Value -> Prop} {K : Value -> Prop} (h : binV P op t x y xo yo F K) :
 Ways P (do pure (.value (<- (do eqGuard op t xo yo x y; binOp op t x y))) : Sem Next) F K := by
 unfold binV at h
 split at h
 . obtain ⟨v, hr, hk⟩ := shiftV_run (P := P) (yk := by assumption) h
   exact Ways.val hk fun w => run_guarded (by simp [eqGuard]) (by simpa [binOp] using hr w)
 . obtain ⟨v, hr, hk⟩ := shiftV_run (P := P) (yk := by assumption) h
   exact Ways.val hk fun w => run_guarded (by simp [eqGuard]) (by simpa [binOp] using hr w)
 . obtain ⟨rfl, h⟩ := h
   obtain ⟨v, hr, hk⟩ := intV_run (P := P) (t := t) h
   exact Ways.val hk fun w => run_guarded (by unfold eqGuard; split <;> simp) (hr w)
 . unfold bolV at h
   split at h
   rotate_left
   . exact h.elim
   rename_i ht
   exact Ways.val h fun w => run_guarded (by simp [eqGuard]) (by simp only [binOp, Sem.run_bind, run_equal_bool w _ _ ht]; rfl)
 . unfold bolV at h
   split at h
   rotate_left
   . exact h.elim
   rename_i ht
   exact Ways.val h fun w => run_guarded (by simp [eqGuard]) (by simp only [binOp, Sem.run_bind, run_equal_bool w _ _ ht]; rfl)
 . unfold pntV at h
   split at h
   rotate_left
   . exact h.elim
   rename_i ht
   exact Ways.val h fun w => run_guarded (by simp [eqGuard]) (by simp only [binOp, Sem.run_bind, run_equal_ptr w _ ht]; rfl)
 . unfold pntV at h
   split at h
   rotate_left
   . exact h.elim
   rename_i ht
   exact Ways.val h fun w => run_guarded (by simp [eqGuard]) (by simp only [binOp, Sem.run_bind, run_equal_ptr w _ ht]; rfl)
 . exact Ways.run h
theorem lenV_ways {P : Program} {ts : Array TypeId} {xs : List Value} {ty : TypeId} {F : Sem Value -> Prop} {K : Value -> Prop} (hts : ts.size ≠ 0) (h : lenV P (tk P (ts.getD 0 0)) ts xs ty F K) :
 Ways P (do pure (.value (<- Builtin.len_ ts ty xs.toArray)) : Sem Next) F K := by
 obtain ⟨t, h0⟩ : ∃ t, ts[0]? = some t := by
  have : 0 < ts.size := by omega
  exact ⟨ts[0], by simp [this]⟩
 have h1 : ts.getD 0 0 = t := by simp [h0]
 unfold lenV at h
 rw [h1] at h
 split at h
 . rename_i ht
   exact Ways.val h fun w => by simp [Builtin.len_, h0, tis_of ht rfl]; rfl
 . rename_i ht
   exact Ways.val h fun w => by simp [Builtin.len_, h0, tis_of ht rfl]; rfl
 . rename_i ht
   exact Ways.val h fun w => by simp [Builtin.len_, h0, tis_of ht rfl]; rfl
 . exact Ways.run h
theorem builtinV_ways {P : Program} {b : Builtin} {ts : Array TypeId} {ty : TypeId} {args : List Value} {F : Sem Value -> Prop} {K : Value -> Prop} {cs : Array Bool} (h : builtinV P b ts ty args F K) :
 Ways P (invoke (.builtin b ts ty cs) args.toArray) F K := by
 cases b <;> simp only [builtinV] at h <;> first
  | exact h.elim
  | exact Ways.run h
  | (split at h
     . exact h.elim
     . rename_i hts
       exact lenV_ways hts h)
theorem ptrV_elim {v : Value} {K : Option Addr -> Prop} (h : ptrV v K) : ∃ p, v = .pointer p /\ K p := by
 cases v <;> first | exact h.elim | exact ⟨_, rfl, h⟩
theorem valV_ways {P : Program} {ρ : Operand -> Value} {o : Oper} {G : Value -> List Value -> Prop} {F : Sem Value -> Prop} {K : Value -> Prop} (h : valV P ρ o.op o.type G F K) :
 Ways P (execOp ρ o) F K ∨ ∃ f args ts, o.op = .call ⟨.value f, args, ts⟩ /\ G (ρ f) (args.toList.map ρ) := by
 by_cases hc : ∃ f args ts, o.op = .call ⟨.value f, args, ts⟩
 . obtain ⟨f, args, ts, ho⟩ := hc
   rw [ho] at h
   exact .inr ⟨f, args, ts, ho, h⟩
 refine .inl ?_
 obtain ⟨dst, op, type, pos, after, guard⟩ := o
 cases op <;> simp only [valV] at h <;> (try exact h.elim) <;> simp only [execOp]
 case move x => exact Ways.value h fun w => by simp
 case assign x => exact Ways.value h fun w => by simp
 case pick c a b =>
  obtain ⟨h1, h2, t, ht⟩ := h
  rw [ht] at h1 h2 ⊢
  cases t
  . exact Ways.value (h2 rfl) fun w => by simp [asBool]
  . exact Ways.value (h1 rfl) fun w => by simp [asBool]
 case alloc e => exact Ways.run h
 case box e x => exact Ways.run h
 case build t ps => exact Ways.run h
 case buildSlice t n ps => exact Ways.run h
 case load t a =>
  obtain ⟨p, hp, h⟩ := ptrV_elim h
  rw [hp]; exact Ways.run h
 case store t a x =>
  unfold storeV at h
  obtain ⟨p, hp, h⟩ := ptrV_elim h
  rw [hp]; exact Ways.unit h
 case nilCheck x =>
  obtain ⟨p, hp, h1, h⟩ := ptrV_elim h
  rw [hp]
  cases p with
  | none => cases h1
  | some p => exact Ways.value h fun w => by simp
 case binOp op t x y u => exact binV_ways h
 case unOp op t x =>
  unfold unV at h
  split at h
  . rename_i hx
    rw [hx]
    exact Ways.val h fun w => by simp [Op.unary]
  . rename_i hx
    rw [hx]
    exact Ways.val h fun w => by simp [Op.unary, Op.intArith]
  . exact Ways.run h
 case convert s t x =>
  unfold convV at h
  split at h
  . rename_i hs ht hx
    rw [hx]
    exact Ways.val h fun w => by simp [convert, tis_of hs rfl, tis_of ht rfl, Conv.intToInt]
  . exact Ways.run h
 case makeSlice t l c => exact Ways.run h
 case slice t x lo hi mx => exact Ways.run h
 case fieldAddr s x f =>
  unfold fldV at h
  obtain ⟨p, hp, h⟩ := ptrV_elim h
  rw [hp]
  split at h
  . rename_i off hoff
    obtain ⟨h1, h⟩ := h
    cases p with
    | none => cases h1
    | some p =>
      unfold tfo at hoff
      split at hoff
      . rename_i fs hs
        split at hoff
        . rename_i fd hfd
          split at hoff
          . cases hoff
          . rename_i hz
            cases hoff
            obtain ⟨i, hi, hsz, _⟩ := info_of_tsz hz
            have hz' : i.size ≠ 0 := by rw [hsz]; exact hz
            exact Ways.val h fun w => by simp [Instr.fieldAt, tis_of hs rfl, hfd, Instr.sureAddr, fieldPlace, sizeOf, typeInfo, hi, hz', sh]
        . cases hoff
      . cases hoff
  . exact h.elim
 case field t x f => exact Ways.run h
 case indexAddr t x i =>
  unfold idxV at h
  split at h
  . rename_i e ht
    unfold slV at h
    split at h
    . rename_i a n c k i hx hi
      split at h
      . exact h.elim
      . rename_i hz
        obtain ⟨⟨h1, h2, h3⟩, h⟩ := h
        cases a with
        | none => cases h3
        | some a =>
          rw [hx, hi]
          obtain ⟨inf, hinf, hsz, _⟩ := info_of_tsz hz
          exact Ways.val h fun w => by simp [Instr.indexAt, asIntOf, tis_of ht rfl, h1, h2, sizeOf, typeInfo, hinf, hsz, sh]
    . exact Ways.run h
  . exact Ways.run h
 case index t x i => exact Ways.run h
 case lookup t x i ok => exact Ways.run h
 case makeInterface t x =>
  have key : ∀ d, tk P t = d -> tis d = true -> (∀ ms, d ≠ .interface ms) -> K (.iface t (ρ x)) -> Ways P (do pure (.value (<- Instr.makeInterface t (ρ x))) : Sem Next) F K := by
   intro d hd hi hn hk
   refine Ways.val hk fun w => ?_
   simp only [Instr.makeInterface, Sem.run_bind, tis_of hd hi]
   cases d <;> simp_all
  unfold mkiV at h
  generalize hd : tk P t = d at h
  cases d <;> first | exact h.elim | exact key _ hd rfl (by simp) h
 case makeFunc f first cap => exact Ways.val h fun w => by simp [Instr.makeFunc]
 case makeMap t r => exact Ways.run h
 case mapUpdate t m k x => exact Ways.unit h
 case insert t m k x => exact Ways.unit h
 case mapEntry t m k => exact Ways.run h
 case entryStore t m s x => exact Ways.unit h
 case range t x => exact Ways.run h
 case next it s => exact Ways.run h
 case entry it => exact Ways.run h
 case typeAssert x t u ok => exact Ways.run h
 case extract t i =>
  unfold extV at h
  split at h
  . rename_i vs hv
    rw [hv]
    unfold extO at h
    split at h
    . rename_i v hvi
      have hvi' : vs[i]? = some v := by rw [<- hvi]; simp
      exact Ways.val h fun w => by simp [Instr.extract, hvi']
    . exact h.elim
  . exact h.elim
 case call c =>
  obtain ⟨callee, args, ts⟩ := c
  cases callee with
  | value f => exact (hc ⟨f, args, ts, rfl⟩).elim
  | builtin b =>
    have e : (args.toList.map ρ).toArray = args.map ρ := by rw [<- Array.toList_map]
    have := builtinV_ways (cs := args.map fun | .const _ => true | _ => false) h
    rw [e] at this
    exact this
  | invoke r m => exact h.elim
def StepP (P : Program) (s : Sem Next) (w : World) (K : Value -> World -> Prop) : Prop :=
 match s.run P w with
 | .ok (.value v) w' => K v w'
 | .ok .skip w' => K undef w'
 | .ok (.enter f args) w' => Ret P f args w' K
 | .ok (.round l fn tmps assign body) w' => RoundIn Fence.wide 0 P l fn tmps assign body w' fun e w'' => ∃ v, e = .returned v /\ K v w''
 | _ => False
theorem callV_step {P : Program} {f : Value} {args : List Value} {w : World} {K : Value -> World -> Prop} (h : callV P f args w K) :
 StepP P (do let d <- Deferred.ofValue f args.toArray; invoke d.target d.args) w K := by
 unfold callV at h
 split at h
 . rename_i g first captured
   unfold callE at h
   have e : (do let d <- Deferred.ofValue (.func (.func g) first captured) args.toArray; invoke d.target d.args : Sem Next) = callFunc g (first ++ args.toArray ++ captured) := rfl
   rw [e]
   split at h
   . rename_i he
     unfold entered at he
     have hr : (callFunc g (first ++ args.toArray ++ captured)).run P w = .ok (.enter g (first ++ args.toArray ++ captured)) w := by
      cases hf : P.funcs[g]? with
      | none => rw [hf] at he; cases he
      | some fn =>
        rw [hf] at he
        simp only [Bool.and_eq_true, bne_iff_ne, ne_eq] at he
        obtain ⟨h1, h2⟩ := he
        have h3 : ¬ fn.body = none := by intro hb; rw [hb] at h2; cases h2
        simp [callFunc, hf, h1, h3]
     unfold StepP
     rw [hr]
     exact h
   . obtain ⟨v, w', hr, hk⟩ := h
     simp only [Sem.run_bind] at hr
     unfold StepP
     cases hc : (callFunc g (first ++ args.toArray ++ captured)).run P w with
     | halt x w'' => rw [hc] at hr; simp [Result.andThen] at hr
     | ok nx w'' =>
       rw [hc] at hr
       cases nx <;> simp [Result.andThen, stuck] at hr
       obtain ⟨rfl, rfl⟩ := hr
       exact hk
 . rename_i l first captured
   obtain ⟨fn, tmps, assign, body, hr, hround⟩ := h
   have e : (do let d <- Deferred.ofValue (.func (.yield l) first captured) args.toArray; invoke d.target d.args : Sem Next) = Instr.yield l (first ++ args.toArray) := rfl
   rw [e]
   unfold StepP
   rw [hr]
   exact hround
 . exact h.elim
theorem Ways.step {P : Program} {x : Sem Next} {w : World} {K : Value -> World -> Prop} (h : Ways P x (fun s => RunV P s w K) (fun v => K v w)) : StepP P x w K := by
 rcases h with ⟨v, hk, hr⟩ | ⟨s, ⟨v, w', hr, hk⟩, hs⟩
 . simp [StepP, hr w, hk]
 . rcases hs w v w' hr with e | ⟨e, rfl⟩
   . simp [StepP, e, hk]
   . simp [StepP, e, hk]
theorem opV_step {P : Program} {ρ : Operand -> Value} {o : Oper} {w : World} {K : Value -> World -> Prop} (h : opV P ρ o.op o.type w K) : StepP P (execOp ρ o) w K := by
 rcases valV_ways h with h | ⟨f, args, ts, ho, h⟩
 . exact h.step
 . obtain ⟨dst, op, type, pos, after, guard⟩ := o
   simp only at ho
   subst ho
   have e : (args.toList.map ρ).toArray = args.map ρ := by rw [<- Array.toList_map]
   have := callV_step h
   rw [e] at this
   exact this
def FloatP (P : Program) (s : Sem Value) (I : World -> Prop) (K : Value -> Prop) (_ : Tag K := .mk) (_ : Tag I := .mk) : Prop := ∃ v, (∀ w, I w -> s.run P w = .ok v w) /\ K v
def floatV (P : Program) (ρ : Operand -> Value) (o : Op) (ty : TypeId) (I : World -> Prop) (K : Value -> Prop) (_ : Tag K := .mk) (_ : Tag I := .mk) : Prop := valV P ρ o ty (fun _ _ => False) (fun s => FloatP P s I K) K
theorem floatV_run {P : Program} {ρ : Operand -> Value} {o : Oper} {I : World -> Prop} {K : Value -> Prop} (h : floatV P ρ o.op o.type I K) :
 ∃ v, (∀ w, I w -> (execOp ρ o).run P w = .ok (.value v) w ∨ ((execOp ρ o).run P w = .ok .skip w /\ v = undef)) /\ K v := by
 rcases valV_ways h with h | ⟨_, _, _, _, h⟩
 rotate_left
 . exact h.elim
 rcases h with ⟨v, hk, hr⟩ | ⟨s, ⟨v, hr, hk⟩, hs⟩
 . exact ⟨v, fun w _ => .inl (hr w), hk⟩
 . exact ⟨v, fun w hw => hs w v w (hr w hw), hk⟩
end Go.E
namespace Go.E
def fz (ro : Option Nat) : Fence := { Fence.wide with round := ro }
theorem fz_fn {ro : Option Nat} (f : FuncId) : (fz ro).fn f := trivial
theorem fz_depth {ro : Option Nat} {p : Prop} : (fz ro).depth.isSome = true -> p := fun h => by cases h
def markOf (r : Nat) : Deferred := { target := .collected r, args := #[] }
structure Fits' (n m : Nat) (ds : List Nat) (loc : List Value) (tmp : List (Nat × Value)) (a : Act) : Prop where
 base : ∃ base, Agree n base loc tmp a
 size : a.tmps.size = m
 defers : a.defers = ds.map markOf
theorem Fits'.clear {n m : Nat} {ds : List Nat} {loc : List Value} {tmp : List (Nat × Value)} {a : Act} (h : Fits' n m ds loc tmp a) : Agree n (fun t => a.tmps.getD t undef) loc [] a := by
 obtain ⟨_, h1, h2, h3, _⟩ := h.base
 exact ⟨h1, h2, h3, fun t _ => rfl⟩
theorem Fits'.cleared {n m : Nat} {ds : List Nat} {loc : List Value} {tmp : List (Nat × Value)} {a : Act} (h : Fits' n m ds loc tmp a) : Fits' n m ds loc [] a :=
 ⟨⟨_, h.clear⟩, h.size, h.defers⟩
def gvalo (o : Option Oper) (look : Operand -> Value) : Value :=
 match o with
 | some o => (match o.dst with | some t => look (.tmp t) | none => undef)
 | none => undef
def gval (ops : List Oper) (j : Nat) (look : Operand -> Value) : Value := gvalo ops[j]? look
def grdV (ops : List Oper) (o : Oper) (look : Operand -> Value) (A B : Prop) (_ : Tag A := .mk) (_ : Tag B := .mk) : Prop :=
 match o.guard with
 | none => A
 | some (j, want) => GuardP (gval ops j look) want A B
def opsV (P : Program) (n : Nat) (base : Nat -> Value) (ops : List Oper) (ds : List Nat) : List Oper -> List Value -> List (Nat × Value) -> World -> (K : Kont) -> (_ : Tag K := .mk) -> Prop
 | [], loc, tmp, w, K, _ => K ds loc tmp w
 | o :: r, loc, tmp, w, K, _ =>
   grdV ops o (ev n base loc tmp)
    (opV P (ev n base loc tmp) o.op o.type w fun v w' => putK n o.dst v loc tmp fun loc tmp => opsV P n base ops ds r loc tmp w' K)
    (putK n o.dst undef loc tmp fun loc tmp => opsV P n base ops ds r loc tmp w K)
theorem grdV_wanted {ops : List Oper} {o : Oper} {a : Act} {A B : Prop} (h : grdV ops o a.eval A B) :
 (Region.wanted o (yielded ops.toArray a.tmps) = true /\ A) ∨ (Region.wanted o (yielded ops.toArray a.tmps) = false /\ B) := by
 unfold grdV at h
 unfold Region.wanted
 cases hg : o.guard with
 | none => rw [hg] at h; exact .inl ⟨rfl, h⟩
 | some jw =>
   obtain ⟨j, want⟩ := jw
   rw [hg] at h
   simp only at h ⊢
   obtain ⟨h1, h2⟩ := h
   have key : (yielded ops.toArray a.tmps j = some want) ↔ gval ops j a.eval = .bool want := by
    unfold yielded gval gvalo
    cases ho : ops[j]? with
    | none => simp [ho, Go.undef]
    | some o' =>
      cases hd : o'.dst with
      | none => simp [ho, hd, Go.undef]
      | some t =>
        simp only [List.getElem?_toArray, ho, Option.bind_some, hd, Act.eval]
        cases ht : a.tmps[t]? with
        | none => simp [ht, Go.undef]
        | some v => cases v <;> simp [ht]
   by_cases hk : gval ops j a.eval = .bool want
   . refine .inl ⟨?_, h1 hk⟩
     rw [key.2 hk]; simp
   . refine .inr ⟨?_, h2 hk⟩
     have : yielded ops.toArray a.tmps j ≠ some want := fun e => hk (key.1 e)
     simpa using this
theorem StepP.plain {P : Program} {ρ : Operand -> Value} {o : Oper} {w : World} {K : Value -> World -> Prop} (h : StepP P (execOp ρ o) w K) : ∀ c, o.op ≠ .defer c := by
 intro c hc
 obtain ⟨dst, op, type, pos, after, guard⟩ := o
 simp only at hc
 subst hc
 simp only [StepP, execOp, Sem.run_bind] at h
 cases hr : (resolve ρ c type).run P w with
 | ok d w' => rw [hr] at h; exact h
 | halt x w' => rw [hr] at h; exact h
theorem StepP.wp {P : Program} {ro : Option Nat} {o : Oper} {a : Act} {w : World} {K : Value -> World -> Prop} {next : Act -> World -> Prop} {Q : Exit -> Act -> World -> Prop} (h : StepP P (execOp a.eval o) w K)
 (hk : ∀ v w', K v w' -> next (a.put o.dst v) w') : o.wpIn (fz ro) 0 P a w next Q := by
 refine ⟨fun f _ => fz_fn f, ?_⟩
 rw [Oper.semAt_eq _ _ _ h.plain]
 unfold StepP at h
 unfold Oper.uponIn
 generalize (execOp a.eval o).run P w = r at *
 cases r with
 | halt x w' => exact h.elim
 | ok nx w' =>
   cases nx <;> first | exact h.elim | exact hk _ _ h | skip
   . refine ⟨fz_depth, ?_⟩
     have := callsIn_wide (n := 0 - 1).2 h
     exact CallsIn.mono (F := fz ro) this fun e w'' ⟨v, he, hv⟩ => by subst he; exact hk _ _ hv
   . refine ⟨fz_depth, ?_⟩
     exact RoundIn.mono (F := fz ro) h fun e w'' ⟨v, he, hv⟩ => by subst he; exact hk _ _ hv
def dstIn (m : Nat) (o : Oper) : Bool := match o.dst with
 | some t => decide (t < m)
 | none => true
theorem dstIn_spec {m : Nat} {o : Oper} (h : dstIn m o = true) : ∀ t, o.dst = some t -> t < m := by
 intro t ht
 unfold dstIn at h
 rw [ht] at h
 simpa using h
theorem opsV_list {P : Program} {ro : Option Nat} {n m : Nat} {base : Nat -> Value} {ops : List Oper} {ds : List Nat} {K : Kont} {Q : Exit -> Act -> World -> Prop} :
 ∀ (l : List Oper) (loc : List Value) (tmp : List (Nat × Value)) (w : World) (a : Act), opsV P n base ops ds l loc tmp w K -> Agree n base loc tmp a -> a.tmps.size = m -> a.defers = ds.map markOf -> l.all (dstIn m) = true ->
  (∀ loc tmp w a, Agree n base loc tmp a -> a.tmps.size = m -> a.defers = ds.map markOf -> K ds loc tmp w -> Q .normal a w) -> wpListIn (fz ro) 0 P ops.toArray Q l a w
 | [], loc, tmp, w, a, h, ha, hs, hd, _, hK => hK loc tmp w a ha hs hd h
 | o :: r, loc, tmp, w, a, h, ha, hs, hd, hall, hK => by
   simp only [List.all_cons, Bool.and_eq_true] at hall
   obtain ⟨hd1, hall⟩ := hall
   have hdst : ∀ t, o.dst = some t -> t < a.tmps.size := by rw [hs]; exact dstIn_spec hd1
   have hnext : ∀ v w', (putK n o.dst v loc tmp fun loc tmp => opsV P n base ops ds r loc tmp w' K) -> wpListIn (fz ro) 0 P ops.toArray Q r (a.put o.dst v) w' := by
    intro v w' hv
    obtain ⟨loc', tmp', ha', hv'⟩ := ha.put hdst v hv
    exact opsV_list r loc' tmp' w' _ hv' ha' (by cases o.dst <;> simp [Act.put, hs]) (by cases o.dst <;> simp [Act.put, hd]) hall hK
   simp only [opsV] at h
   rw [<- ha.ev] at h
   unfold wpListIn
   rcases grdV_wanted h with ⟨hw, h⟩ | ⟨hw, h⟩
   . rw [if_pos hw]
     exact (opV_step h).wp hnext
   . rw [if_neg (by rw [hw]; simp)]
     exact ⟨fun f _ => fz_fn f, hnext _ _ h⟩
section draw
variable {P : Program} {ro : Option Nat} {ops : Array Oper} {Q : Exit -> Act -> World -> Prop} {I : World -> Prop}
def AnyI (ro : Option Nat) (P : Program) (ops : Array Oper) (Q : Exit -> Act -> World -> Prop) (cl : Nat) (I : World -> Prop) : Nat -> Array Bool -> Act -> World -> Prop
 | 0, listed, a, w => (listed.getD cl false = false -> I w) /\ Region.ready .any ops listed = [] /\ Q .normal a w
 | f + 1, listed, a, w => (listed.getD cl false = false -> I w) /\ (Region.ready .any ops listed = [] -> Q .normal a w) /\
   ∀ i ∈ Region.ready .any ops listed, wpOpIn (fz ro) 0 P ops Q i (AnyI ro P ops Q cl I f (listed.setIfInBounds i true)) a w
theorem AnyI.any {cl : Nat} : ∀ (f : Nat) (listed : Array Bool) (a : Act) (w : World), AnyI ro P ops Q cl I f listed a w -> wpAnyIn (fz ro) 0 P .any ops Q f listed a w
 | 0, _, _, _, h => h.2
 | f + 1, _, _, _, h => ⟨h.2.1, fun i hi => wpOpIn_mono (fun a w => AnyI.any f _ a w) (h.2.2 i hi)⟩
def GivesI (P : Program) (ops : Array Oper) (I : World -> Prop) (o : Oper) (v : Value) (a : Act) : Prop :=
 (Region.wanted o (yielded ops a.tmps) = true /\ ∀ w, I w -> (execOp a.eval o).run P w = .ok (.value v) w ∨ ((execOp a.eval o).run P w = .ok .skip w /\ v = undef)) ∨
 (Region.wanted o (yielded ops a.tmps) = false /\ v = undef)
theorem GivesI.wpOp {i : Nat} {o : Oper} {v : Value} {a : Act} (hi : ops[i]? = some o) (hy : GivesI P ops I o v a) {K : Act -> World -> Prop} {w : World} (hI : I w) (h : K (a.put o.dst v) w) :
 wpOpIn (fz ro) 0 P ops Q i K a w := by
 unfold wpOpIn
 simp only [hi]
 rcases hy with ⟨hw, hv⟩ | ⟨hw, rfl⟩
 . rw [if_pos hw]
   refine (StepP.wp (K := fun v' w' => v' = v /\ w' = w) ?_ fun v' w' ⟨e1, e2⟩ => by rw [e1, e2]; exact h)
   unfold StepP
   rcases hv w hI with e | ⟨e, rfl⟩ <;> rw [e] <;> exact ⟨rfl, rfl⟩
 . rw [if_neg (by rw [hw]; simp)]; exact ⟨fun f _ => fz_fn f, h⟩
theorem GivesI.of_same {o : Oper} {v : Value} {a a' : Act} (hy : GivesI P ops I o v a) (he : execOp a'.eval o = execOp a.eval o)
 (hw : Region.wanted o (yielded ops a'.tmps) = Region.wanted o (yielded ops a.tmps)) : GivesI P ops I o v a' := by
 unfold GivesI at *
 rw [he, hw]
 exact hy
theorem wpOp_swap {j : Nat} {oi oj : Oper} {v : Value} (hj : ops[j]? = some oj) (hap : oi.apart ops oj = true)
 (hsi : ∀ cs b, oi.op ≠ .select cs b) (hsj : ∀ cs b, oj.op ≠ .select cs b) (hdj : ∀ c, oj.op ≠ .defer c) (hQ : ∀ c a w, Q (.panic c) (a.put oi.dst v) w -> Q (.panic c) a w)
 {K : Act -> World -> Prop} {a : Act} {w : World} (hy : GivesI P ops I oi v a) (h : wpOpIn (fz ro) 0 P ops Q j K (a.put oi.dst v) w) :
 wpOpIn (fz ro) 0 P ops Q j (fun a' w' => GivesI P ops I oi v a' /\ K (a'.put oi.dst v) w') a w := by
 obtain ⟨h1, h2, h3⟩ := Oper.apart_spec hap
 have keep : ∀ u, GivesI P ops I oi v (a.put oj.dst u) := fun u => hy.of_same (execOp_put oi hsi a oj.dst u h3) (wanted_put oi a oj.dst u h3)
 have keepD : ∀ d u, GivesI P ops I oi v (({ a with defers := d :: a.defers } : Act).put oj.dst u) := fun d u =>
  (hy.of_same (a' := { a with defers := d :: a.defers }) rfl rfl).of_same (execOp_put oi hsi _ oj.dst u h3) (wanted_put oi _ oj.dst u h3)
 have he := execOp_put (ops := ops) oj hsj a oi.dst v h1
 have hw := wanted_put (ops := ops) oj a oi.dst v h1
 unfold wpOpIn at h ⊢
 simp only [hj] at h ⊢
 rw [hw] at h
 by_cases hwant : Region.wanted oj (yielded ops a.tmps) = true
 . rw [if_pos hwant] at h ⊢
   refine ⟨fun f _ => fz_fn f, ?_⟩
   have h := h.2
   rw [Oper.semAt_eq _ _ _ hdj] at h ⊢
   rw [he] at h
   generalize (execOp a.eval oj).run P w = r at h ⊢
   cases r with
   | halt x w' => cases x <;> first | exact hQ _ _ _ h | exact h
   | ok nx w' =>
     cases nx <;> first | exact h.elim | skip
     . exact ⟨keep _, by rw [<- Act.put_comm a v _ h2]; exact h⟩
     . exact ⟨keep _, by rw [<- Act.put_comm a v _ h2]; exact h⟩
     . refine ⟨h.1, CallsIn.mono h.2 fun e w'' hr => ?_⟩
       cases e with
       | returned u => exact ⟨keep u, by rw [<- Act.put_comm a v u h2]; exact hr⟩
       | panicked c => exact hQ _ _ _ hr
       | outgrown => exact hr
     . refine ⟨h.1, RoundIn.mono h.2 fun e w'' hr => ?_⟩
       cases e with
       | returned u => exact ⟨keep u, by rw [<- Act.put_comm a v u h2]; exact hr⟩
       | panicked c => exact hQ _ _ _ hr
       | outgrown => exact hr
     . refine ⟨keepD _ _, ?_⟩
       rw [<- Act.put_comm _ v undef h2, <- Act.put_defers]
       exact h
     . exact ⟨h.1, RowsIn.mono h.2 fun u w'' hr => ⟨keep u, by rw [<- Act.put_comm a v u h2]; exact hr⟩⟩
 . rw [if_neg hwant] at h ⊢
   exact ⟨fun f _ => fz_fn f, keep _, by rw [<- Act.put_comm a v undef h2]; exact h.2⟩
def pureOp : Op -> Bool
 | .move _ => true
 | .assign _ => true
 | .pick _ _ _ => true
 | .nilCheck _ => true
 | .fieldAddr _ _ _ => true
 | .extract _ _ => true
 | .makeFunc _ _ _ => true
 | .makeInterface _ _ => true
 | _ => false
theorem floatV_pure {ρ : Operand -> Value} {o : Op} {ty : TypeId} {I : World -> Prop} {K : Value -> Prop} (hp : pureOp o = true) (h : floatV P ρ o ty I K) : floatV P ρ o ty (fun _ => True) K := by
 cases o <;> first | exact h | cases hp
def noDefer (ops : Array Oper) : Bool := ops.all fun o => match o.op with | .defer _ => false | _ => true
theorem noDefer_spec {ops : Array Oper} (h : noDefer ops = true) (j : Nat) (o : Oper) (c : Call) (ho : ops[j]? = some o) : o.op ≠ .defer c := by
 intro heq
 have := Array.all_eq_true_iff_forall_mem.1 h o (Array.mem_of_getElem? ho)
 simp [heq] at this
def planOK (ops : Array Oper) (cl : Nat) : List (Nat × Bool) -> Array Bool -> Bool
 | [], listed => (Region.ready .any ops listed).isEmpty
 | (i, fl) :: r, listed =>
   (if fl then (Region.ready .any ops listed).contains i && Region.free .any ops listed i && (cl != i && ((match ops[i]? with | none => false | some oi => pureOp oi.op) || (!(listed.getD cl false) && (match ops[cl]? with | none => true | some oc => oc.after.any fun e => Region.binds .any e && e.on == i))))
    else Region.ready .any ops listed == [i] && (if r.isEmpty then i == cl && decide (i < listed.size) else !(listed.getD cl false) && i != cl)) &&
   planOK ops cl r (listed.setIfInBounds i true)
def clOf (ops : Array Oper) (pl : List (Nat × Bool)) : Nat := match pl.getLast? with
 | some (i, false) => i
 | _ => ops.size
def planO (n : Nat) (base : Nat -> Value) (ops : List Oper) (o : Option Oper) (loc : List Value) (tmp : List (Nat × Value)) (A : Oper -> Prop) (B : Oper -> Prop) (_ : Tag A := .mk) (_ : Tag B := .mk) : Prop :=
 match o with
 | none => False
 | some o => grdV ops o (ev n base loc tmp) (A o) (B o)
def planV (P : Program) (n : Nat) (base : Nat -> Value) (ops : List Oper) (I : World -> Prop) (ds : List Nat) : List (Nat × Bool) -> List Value -> List (Nat × Value) -> World -> (K : Kont) -> (_ : Tag K := .mk) -> (_ : Tag I := .mk) -> Prop
 | [], loc, tmp, w, K, _, _ => K ds loc tmp w
 | (i, true) :: r, loc, tmp, w, K, _, _ => planO n base ops ops[i]? loc tmp
   (fun o => floatV P (ev n base loc tmp) o.op o.type I fun v => putK n o.dst v loc tmp fun loc tmp => planV P n base ops I ds r loc tmp w K)
   (fun o => putK n o.dst undef loc tmp fun loc tmp => planV P n base ops I ds r loc tmp w K)
 | [(i, false)], loc, tmp, w, K, _, _ => planO n base ops ops[i]? loc tmp
   (fun o => opV P (ev n base loc tmp) o.op o.type w fun v w' => putK n o.dst v loc tmp fun loc tmp => K ds loc tmp w')
   (fun o => putK n o.dst undef loc tmp fun loc tmp => K ds loc tmp w)
 | (i, false) :: j :: r, loc, tmp, w, K, _, _ => planO n base ops ops[i]? loc tmp
   (fun o => opV P (ev n base loc tmp) o.op o.type w fun v w' => I w' /\ putK n o.dst v loc tmp fun loc tmp => planV P n base ops I ds (j :: r) loc tmp w' K)
   (fun o => putK n o.dst undef loc tmp fun loc tmp => planV P n base ops I ds (j :: r) loc tmp w K)
end draw
end Go.E
namespace Go.E
def SemV (P : Program) (ro : Option Nat) (n m : Nat) (c : Code) (ds : List Nat) (loc : List Value) (tmp : List (Nat × Value)) (w : World) (Q : Exit -> Kont) (_ : Tag c := .mk) (_ : Tag Q := .mk) : Prop :=
 ∀ (a : Act), Fits' n m ds loc tmp a -> ∀ Qs : Exit -> Act -> World -> Prop, (∀ e ds loc tmp w a, Fits' n m ds loc tmp a -> Q e ds loc tmp w -> Qs e a w) -> c.wpIn (fz ro) 0 P Qs a w
def mkQ (N : Kont) (X : Nat -> Kont) (R : Kont) : Exit -> Kont
 | .normal => N
 | .exit i => X i
 | .ret => R
 | _ => fun _ _ _ _ => False
def codeV (P : Program) (ro : Option Nat) (n m : Nat) : Code -> List Nat -> List Value -> List (Nat × Value) -> World -> (N : Kont) -> (X : Nat -> Kont) -> (R : Kont) -> (_ : Tag N := .mk) -> (_ : Tag X := .mk) -> (_ : Tag R := .mk) -> Prop
 | .skip, ds, loc, tmp, w, N, _, _, _, _, _ => N ds loc tmp w
 | .region id ops draw, ds, loc, _, w, N, X, R, _, _, _ =>
   if draw then SemV P ro n m (.region id ops true) ds loc [] w (mkQ N X R) else ∀ base, opsV P n base ops.toList ds ops.toList loc [] w N
 | .seq a b, ds, loc, tmp, w, N, X, R, _, _, _ => codeV P ro n m a ds loc tmp w (fun ds loc tmp w => codeV P ro n m b ds loc tmp w N X R) X R
 | .cond c t e, ds, loc, tmp, w, N, X, R, _, _, _ => ∀ base, CondP (ev n base loc tmp c) (codeV P ro n m t ds loc tmp w N X R) (codeV P ro n m e ds loc tmp w N X R)
 | .block i c, ds, loc, tmp, w, N, X, R, _, _, _ => codeV P ro n m c ds loc tmp w N (fun j => if j = i then N else X j) R
 | .loop c, ds, loc, _, w, N, X, R, _, _, _ => SemV P ro n m (.loop c) ds loc [] w (mkQ N X R)
 | .exit i, ds, loc, tmp, w, _, X, _, _, _, _ => X i ds loc tmp w
 | .ret, ds, loc, tmp, w, _, _, R, _, _, _ => R ds loc tmp w
 | .rangeFunc f ps a b, ds, loc, tmp, w, N, X, R, _, _, _ => SemV P ro n m (.rangeFunc f ps a b) ds loc tmp w (mkQ N X R)
 | .scope b, ds, loc, tmp, w, N, X, R, _, _, _ => codeV P ro n m b ds loc tmp w N X R
 | .label _, ds, loc, tmp, w, N, _, _, _, _, _ => N ds loc tmp w
 | .goto l, ds, loc, tmp, w, N, X, R, _, _, _ => SemV P ro n m (.goto l) ds loc tmp w (mkQ N X R)
 | .refuse y, ds, loc, tmp, w, N, X, R, _, _, _ => SemV P ro n m (.refuse y) ds loc tmp w (mkQ N X R)
def codeOK (m : Nat) : Code -> Bool
 | .region _ ops draw => draw || ops.toList.all (dstIn m)
 | .seq a b => codeOK m a && codeOK m b
 | .cond _ t e => codeOK m t && codeOK m e
 | .block _ c => codeOK m c
 | .scope c => codeOK m c
 | _ => true
section
variable {P : Program} {ro : Option Nat} {n m : Nat} {ds : List Nat} {loc : List Value} {tmp : List (Nat × Value)} {w : World}
theorem SemV.mono {c : Code} {Q Q' : Exit -> Kont} (h : SemV P ro n m c ds loc tmp w Q) (hq : ∀ e ds loc tmp w, Q e ds loc tmp w -> Q' e ds loc tmp w) : SemV P ro n m c ds loc tmp w Q' :=
 fun a ha Qs hQs => h a ha Qs fun e ds loc tmp w a ha hq' => hQs e ds loc tmp w a ha (hq _ _ _ _ _ hq')
theorem SemV.seq {a b : Code} {N K R : Kont} {X : Nat -> Kont} (h : SemV P ro n m a ds loc tmp w (mkQ K X R)) (hb : ∀ ds loc tmp w, K ds loc tmp w -> SemV P ro n m b ds loc tmp w (mkQ N X R)) :
 SemV P ro n m (.seq a b) ds loc tmp w (mkQ N X R) := by
 intro act ha Qs hQs
 refine wpIn_seq (h act ha _ fun e ds loc tmp w a ha hq => ?_)
 cases e with
 | normal => exact hb _ _ _ _ hq a ha Qs hQs
 | exit i => exact hQs (.exit i) _ _ _ _ _ ha hq
 | ret => exact hQs .ret _ _ _ _ _ ha hq
 | _ => exact hq.elim
theorem SemV.block {c : Code} {i : Nat} {N R : Kont} {X : Nat -> Kont} (h : SemV P ro n m c ds loc tmp w (mkQ N (fun j => if j = i then N else X j) R)) : SemV P ro n m (.block i c) ds loc tmp w (mkQ N X R) := by
 intro act ha Qs hQs
 refine wpIn_block (h act ha _ fun e ds loc tmp w a ha hq => ?_)
 cases e with
 | exit j =>
   simp only [mkQ, Exit.inBlock] at hq ⊢
   split <;> rename_i hj
   . rw [if_pos hj] at hq; exact hQs .normal _ _ _ _ _ ha hq
   . rw [if_neg hj] at hq; exact hQs (.exit j) _ _ _ _ _ ha hq
 | normal => exact hQs .normal _ _ _ _ _ ha hq
 | ret => exact hQs .ret _ _ _ _ _ ha hq
 | _ => exact hq.elim
theorem stepR_scope {b : Frame} {a : Act} {k : List Item} {cs : List Frame} {c : Code} : step P (lone (b.atR a (.code (.scope c) :: k)) cs w) = .next (lone (b.atR a (.code c :: .inScope c :: k)) cs w) :=
 step_lone_go (by simp [stepG, stepG.exec, Frame.atR])
theorem stepR_inScope {b : Frame} {a : Act} {k : List Item} {cs : List Frame} {c : Code} : step P (lone (b.atR a (.inScope c :: k)) cs w) = .next (lone (b.atR a k) cs w) :=
 step_lone_go (by simp [stepG, stepG.exec, Frame.atR])
theorem wpIn_scope {F : Fence} {d : Nat} {a : Act} {Q : Exit -> Act -> World -> Prop} {c : Code} (hg : ∀ l a w, ¬ Q (.goto l) a w) (h : c.wpIn F d P Q a w) : (Code.scope c).wpIn F d P Q a w := by
 intro b k cs hro hb hr
 have h0 : (lone (b.atR a (.code (.scope c) :: k)) cs w).fenced P F := fenced_calm hb hr rfl
 obtain ⟨e, a₁, w₁, hq, harr⟩ := h b (.inScope c :: k) cs hro hb hr
 cases e with
 | normal => exact ⟨.normal, a₁, w₁, hq, .head h0 stepR_scope (StepsIn.trans harr (.one (fenced_calm hb hr rfl) stepR_inScope))⟩
 | exit id' =>
   have hx : exitTo id' (.inScope c :: k) = exitTo id' k := by simp [exitTo]
   exact ⟨.exit id', a₁, w₁, hq, fun k' hk => .head h0 stepR_scope (harr.1 k' (by rw [hx]; exact hk)),
    fun hr' hk => let ⟨k₁, h1, h2⟩ := harr.2 hr' (by rw [hx]; exact hk); ⟨k₁, h1, .head h0 stepR_scope h2⟩⟩
 | goto l => exact (hg _ _ _ hq).elim
 | ret => exact ⟨_, a₁, w₁, hq, .of_steps (.one h0 stepR_scope) harr⟩
 | panic ch => exact ⟨_, a₁, w₁, hq, .of_steps (.one h0 stepR_scope) harr⟩
 | outgrown => exact ⟨_, a₁, w₁, hq, .of_steps (.one h0 stepR_scope) harr⟩
theorem SemV.scope {c : Code} {N R : Kont} {X : Nat -> Kont} (h : SemV P ro n m c ds loc tmp w (mkQ N X R)) : SemV P ro n m (.scope c) ds loc tmp w (mkQ N X R) := by
 intro act ha Qs hQs
 refine wpIn_mono (Q := fun e a w => ∃ ds loc tmp, Fits' n m ds loc tmp a /\ mkQ N X R e ds loc tmp w) ?_ (fun e a w ⟨ds, loc, tmp, hf, hq⟩ => hQs _ _ _ _ _ _ hf hq)
 refine wpIn_scope (fun l a w => ?_) (h act ha _ fun e ds loc tmp w a hf hq => ⟨ds, loc, tmp, hf, hq⟩)
 rintro ⟨ds, loc, tmp, hf, hq⟩
 exact hq
theorem SemV.cleared {c : Code} {Q : Exit -> Kont} (h : SemV P ro n m c ds loc [] w Q) : SemV P ro n m c ds loc tmp w Q :=
 fun a ha => h a ha.cleared
end
theorem codeV_sem {P : Program} {ro : Option Nat} {n m : Nat} : ∀ (c : Code) (ds : List Nat) (loc : List Value) (tmp : List (Nat × Value)) (w : World) (N : Kont) (X : Nat -> Kont) (R : Kont), codeV P ro n m c ds loc tmp w N X R -> codeOK m c = true -> SemV P ro n m c ds loc tmp w (mkQ N X R)
 | .skip, ds, loc, tmp, w, N, X, R, h, _ => fun a ha Qs hQs => wpIn_skip (hQs .normal _ _ _ _ _ ha h)
 | .region id ops draw, ds, loc, tmp, w, N, X, R, h, hok => by
   simp only [codeV] at h
   cases draw with
   | true => exact SemV.cleared h
   | false =>
     simp only [Bool.false_eq_true, if_false] at h
     simp only [codeOK, Bool.false_or] at hok
     intro a ha Qs hQs
     refine wpIn_region_list ?_
     have := opsV_list (ro := ro) (Q := Qs) ops.toList loc [] w a (h _) ha.clear ha.size ha.defers hok fun loc tmp w a h1 h2 h3 hk => hQs .normal _ _ _ _ _ ⟨⟨_, h1⟩, h2, h3⟩ hk
     simpa using this
 | .seq a b, ds, loc, tmp, w, N, X, R, h, hok => by
   simp only [codeOK, Bool.and_eq_true] at hok
   exact SemV.seq (codeV_sem a ds loc tmp w _ _ _ h hok.1) fun ds loc tmp w hk => codeV_sem b ds loc tmp w N X R hk hok.2
 | .cond c t e, ds, loc, tmp, w, N, X, R, h, hok => by
   simp only [codeOK, Bool.and_eq_true] at hok
   intro a ha Qs hQs
   obtain ⟨base, hb⟩ := ha.base
   obtain ⟨h1, h2, x, hx⟩ := h base
   have hc : a.eval c = .bool x := by rw [hb.ev]; exact hx
   cases x with
   | true => exact wpIn_cond hc (codeV_sem t ds loc tmp w N X R (h1 hx) hok.1 a ha Qs hQs)
   | false => exact wpIn_cond hc (codeV_sem e ds loc tmp w N X R (h2 hx) hok.2 a ha Qs hQs)
 | .block i c, ds, loc, tmp, w, N, X, R, h, hok => SemV.block (codeV_sem c ds loc tmp w _ _ _ h hok)
 | .loop c, ds, loc, tmp, w, N, X, R, h, _ => SemV.cleared h
 | .exit i, ds, loc, tmp, w, N, X, R, h, _ => fun a ha Qs hQs => wpIn_exit (hQs (.exit i) _ _ _ _ _ ha h)
 | .ret, ds, loc, tmp, w, N, X, R, h, _ => fun a ha Qs hQs => wpIn_ret (hQs .ret _ _ _ _ _ ha h)
 | .rangeFunc _ _ _ _, _, _, _, _, _, _, _, h, _ => h
 | .scope c, ds, loc, tmp, w, N, X, R, h, hok => SemV.scope (codeV_sem c ds loc tmp w N X R h hok)
 | .label _, _, _, _, _, _, _, _, h, _ => fun a ha Qs hQs => wpIn_label (hQs .normal _ _ _ _ _ ha h)
 | .goto _, _, _, _, _, _, _, _, h, _ => h
 | .refuse _, _, _, _, _, _, _, _, h, _ => h
section
variable {P : Program} {ro : Option Nat} {n m : Nat} {ds : List Nat} {loc : List Value} {w : World} {N R : Kont} {X : Nat -> Kont}
end
def ResP (P : Program) (fn : Func) (n : Nat) (R : Value -> World -> Prop) : List Nat -> List Value -> World -> Prop
 | [], loc, w => ∀ look : Nat -> Value, (∀ t, t < n -> look t = loc.getD t undef) -> ∃ v, (∀ tmps : Array Value, (∀ t, tmps.getD t undef = look t) -> (results fn tmps).run P w = .ok v w) /\ R v w
 | d :: ds, loc, w => ∃ w', (Instr.takeDeferred d).run P w = .ok [] w' /\ ResP P fn n R ds loc w'
def retQ (P : Program) (fn : Func) (n : Nat) (R : Value -> World -> Prop) : Kont := fun ds loc _ w => ResP P fn n R ds loc w
theorem ResP.leaves {P : Program} {fn : Func} {n : Nat} {R : Value -> World -> Prop} {tmps : Array Value} : ∀ (ds : List Nat) (loc : List Value) (w : World), ResP P fn n R ds loc w -> (∀ t, t < n -> tmps.getD t undef = loc.getD t undef) ->
 LeavesInM Fence.wide 0 P fn tmps (fun e w' => ∃ v, e = .returned v /\ R v w') (ds.map markOf) .returning w
 | [], loc, w, h, ht => by
   obtain ⟨v, hv, hR⟩ := h (fun t => tmps.getD t undef) ht
   exact ⟨v, hv tmps (fun _ => rfl), v, rfl, hR⟩
 | d :: ds, loc, w, h, ht => by
   obtain ⟨w', hk, hr⟩ := h
   exact ⟨by simp, .inl ⟨d, w', rfl, hk, ResP.leaves ds loc w' hr ht⟩⟩
section
variable {P : Program} {fn : Func} {n : Nat} {ds : List Nat} {loc : List Value} {w : World} {R : Value -> World -> Prop}
theorem ResP.run {v : Value} (h : ∀ tmps : Array Value, (∀ t, t < n -> tmps.getD t undef = loc.getD t undef) -> (results fn tmps).run P w = .ok v w) (hR : R v w) : ResP P fn n R [] loc w :=
 fun look hl => ⟨v, fun tmps ht' => h tmps fun t ht => by rw [ht' t, hl t ht], hR⟩
end
end Go.E
namespace Go.E
theorem vc :
 (∀ (base : Nat->Value) (t : Nat), lk base [] t = (base t)) /\
 (∀ (A : Prop) (B : Prop), GuardP (.bool true) true A B = (A)) /\
 (∀ (A : Prop) (B : Prop), GuardP (.bool false) false A B = (A)) /\
 (∀ (A : Prop) (B : Prop), GuardP (.bool true) false A B = (B)) /\
 (∀ (A : Prop) (B : Prop), GuardP (.bool false) true A B = (B)) /\
 (∀ (A : Prop) (B : Prop) (b : Bool), GuardP (.tuple #[]) b A B = (B)) /\
 (∀ (A : Prop) (B : Prop), CondP (.bool true) A B = (A)) /\
 (∀ (A : Prop) (B : Prop), CondP (.bool false) A B = (B)) /\
 (∀ (F : Sem Value->Prop) (KV : Value->Prop) (b : Bool), unV .not (.bool b) F KV = (KV (.bool (!b)))) /\
 (∀ (F : Sem Value->Prop) (KV : Value->Prop) (k : IntKind) (x : Int), unV .neg (.int k x) F KV = (KV (.int k (k.wrap (0 - x))))) /\
 (∀ (F : Sem Value->Prop) (KV : Value->Prop) (k1 : IntKind) (k2 : IntKind) (k3 : IntKind) (s : Nat) (t : Nat) (x : Int), convV (.int k1) (.int k2) s t (.int k3 x) F KV = (KV (.int k2 (k2.wrap x)))) /\
 (∀ (KV : Value->Prop) (k : IntKind) (t : Nat) (x : Value), mkiV (.int k) t x KV = (KV (.iface t x))) /\
 (∀ (F : Sem Value->Prop) (KV : Value->Prop) (P : Program) (k : IntKind) (k2 : IntKind) (t : Nat) (x : Int) (xo : Operand) (y : Int) (yo : Operand), binV P .add t (.int k x) (.int k2 y) xo yo F KV = (k = k2 /\ intV .add k x y KV)) /\
 (∀ (F : Sem Value->Prop) (KV : Value->Prop) (P : Program) (k : IntKind) (k2 : IntKind) (t : Nat) (x : Int) (xo : Operand) (y : Int) (yo : Operand), binV P .sub t (.int k x) (.int k2 y) xo yo F KV = (k = k2 /\ intV .sub k x y KV)) /\
 (∀ (F : Sem Value->Prop) (KV : Value->Prop) (P : Program) (k : IntKind) (k2 : IntKind) (t : Nat) (x : Int) (xo : Operand) (y : Int) (yo : Operand), binV P .mul t (.int k x) (.int k2 y) xo yo F KV = (k = k2 /\ intV .mul k x y KV)) /\
 (∀ (F : Sem Value->Prop) (KV : Value->Prop) (P : Program) (k : IntKind) (k2 : IntKind) (t : Nat) (x : Int) (xo : Operand) (y : Int) (yo : Operand), binV P .quo t (.int k x) (.int k2 y) xo yo F KV = (k = k2 /\ intV .quo k x y KV)) /\
 (∀ (F : Sem Value->Prop) (KV : Value->Prop) (P : Program) (k : IntKind) (k2 : IntKind) (t : Nat) (x : Int) (xo : Operand) (y : Int) (yo : Operand), binV P .rem t (.int k x) (.int k2 y) xo yo F KV = (k = k2 /\ intV .rem k x y KV)) /\
 (∀ (F : Sem Value->Prop) (KV : Value->Prop) (P : Program) (k : IntKind) (k2 : IntKind) (t : Nat) (x : Int) (xo : Operand) (y : Int) (yo : Operand), binV P .and t (.int k x) (.int k2 y) xo yo F KV = (k = k2 /\ intV .and k x y KV)) /\
 (∀ (F : Sem Value->Prop) (KV : Value->Prop) (P : Program) (k : IntKind) (k2 : IntKind) (t : Nat) (x : Int) (xo : Operand) (y : Int) (yo : Operand), binV P .or t (.int k x) (.int k2 y) xo yo F KV = (k = k2 /\ intV .or k x y KV)) /\
 (∀ (F : Sem Value->Prop) (KV : Value->Prop) (P : Program) (k : IntKind) (k2 : IntKind) (t : Nat) (x : Int) (xo : Operand) (y : Int) (yo : Operand), binV P .xor t (.int k x) (.int k2 y) xo yo F KV = (k = k2 /\ intV .xor k x y KV)) /\
 (∀ (F : Sem Value->Prop) (KV : Value->Prop) (P : Program) (k : IntKind) (k2 : IntKind) (t : Nat) (x : Int) (xo : Operand) (y : Int) (yo : Operand), binV P .andNot t (.int k x) (.int k2 y) xo yo F KV = (k = k2 /\ intV .andNot k x y KV)) /\
 (∀ (F : Sem Value->Prop) (KV : Value->Prop) (P : Program) (k : IntKind) (k2 : IntKind) (t : Nat) (x : Int) (xo : Operand) (y : Int) (yo : Operand), binV P .eql t (.int k x) (.int k2 y) xo yo F KV = (k = k2 /\ intV .eql k x y KV)) /\
 (∀ (F : Sem Value->Prop) (KV : Value->Prop) (P : Program) (k : IntKind) (k2 : IntKind) (t : Nat) (x : Int) (xo : Operand) (y : Int) (yo : Operand), binV P .neq t (.int k x) (.int k2 y) xo yo F KV = (k = k2 /\ intV .neq k x y KV)) /\
 (∀ (F : Sem Value->Prop) (KV : Value->Prop) (P : Program) (k : IntKind) (k2 : IntKind) (t : Nat) (x : Int) (xo : Operand) (y : Int) (yo : Operand), binV P .lss t (.int k x) (.int k2 y) xo yo F KV = (k = k2 /\ intV .lss k x y KV)) /\
 (∀ (F : Sem Value->Prop) (KV : Value->Prop) (P : Program) (k : IntKind) (k2 : IntKind) (t : Nat) (x : Int) (xo : Operand) (y : Int) (yo : Operand), binV P .leq t (.int k x) (.int k2 y) xo yo F KV = (k = k2 /\ intV .leq k x y KV)) /\
 (∀ (F : Sem Value->Prop) (KV : Value->Prop) (P : Program) (k : IntKind) (k2 : IntKind) (t : Nat) (x : Int) (xo : Operand) (y : Int) (yo : Operand), binV P .gtr t (.int k x) (.int k2 y) xo yo F KV = (k = k2 /\ intV .gtr k x y KV)) /\
 (∀ (F : Sem Value->Prop) (KV : Value->Prop) (P : Program) (k : IntKind) (k2 : IntKind) (t : Nat) (x : Int) (xo : Operand) (y : Int) (yo : Operand), binV P .geq t (.int k x) (.int k2 y) xo yo F KV = (k = k2 /\ intV .geq k x y KV)) /\
 (∀ (F : Sem Value->Prop) (KV : Value->Prop) (P : Program) (k : IntKind) (k2 : IntKind) (t : Nat) (x : Int) (xo : Operand) (y : Int) (yo : Operand), binV P .shl t (.int k x) (.int k2 y) xo yo F KV = (shiftV .shl k x y KV)) /\
 (∀ (F : Sem Value->Prop) (KV : Value->Prop) (P : Program) (k : IntKind) (k2 : IntKind) (t : Nat) (x : Int) (xo : Operand) (y : Int) (yo : Operand), binV P .shr t (.int k x) (.int k2 y) xo yo F KV = (shiftV .shr k x y KV)) /\
 (∀ (F : Sem Value->Prop) (KV : Value->Prop) (P : Program) (t : Nat) (x1 : ByteArray) (xo : Operand) (y1 : ByteArray) (yo : Operand), binV P .eql t (.string x1) (.string y1) xo yo F KV = (F (do eqGuard .eql t xo yo (.string x1) (.string y1); binOp .eql t (.string x1) (.string y1)))) /\
 (∀ (F : Sem Value->Prop) (KV : Value->Prop) (P : Program) (t : Nat) (xo : Operand) (yo : Operand), binV P .eql t (.nilIface) (.nilIface) xo yo F KV = (F (do eqGuard .eql t xo yo (.nilIface) (.nilIface); binOp .eql t (.nilIface) (.nilIface)))) /\
 (∀ (F : Sem Value->Prop) (KV : Value->Prop) (P : Program) (t : Nat) (x1 : ByteArray) (xo : Operand) (y1 : ByteArray) (yo : Operand), binV P .neq t (.string x1) (.string y1) xo yo F KV = (F (do eqGuard .neq t xo yo (.string x1) (.string y1); binOp .neq t (.string x1) (.string y1)))) /\
 (∀ (A : Prop), bolV .bool A = (A)) /\
 (∀ (A : Prop) (s : Nat), pntV (.pointer s) A = (A)) /\
 (∀ (KV : Value->Prop) (k : IntKind) (x : Int) (y : Int), intV .add k x y KV = (KV (.int k (k.wrap (x + y))))) /\
 (∀ (KV : Value->Prop) (k : IntKind) (x : Int) (y : Int), intV .sub k x y KV = (KV (.int k (k.wrap (x - y))))) /\
 (∀ (KV : Value->Prop) (k : IntKind) (x : Int) (y : Int), intV .mul k x y KV = (KV (.int k (k.wrap (x * y))))) /\
 (∀ (KV : Value->Prop) (k : IntKind) (x : Int) (y : Int), intV .quo k x y KV = (y ≠ 0 /\ KV (.int k (k.wrap (x.tdiv y))))) /\
 (∀ (KV : Value->Prop) (k : IntKind) (x : Int) (y : Int), intV .rem k x y KV = (y ≠ 0 /\ KV (.int k (x.tmod y)))) /\
 (∀ (KV : Value->Prop) (k : IntKind) (x : Int) (y : Int), intV .eql k x y KV = (KV (.bool (decide (x = y))))) /\
 (∀ (KV : Value->Prop) (k : IntKind) (x : Int) (y : Int), intV .neq k x y KV = (KV (.bool (!decide (x = y))))) /\
 (∀ (KV : Value->Prop) (k : IntKind) (x : Int) (y : Int), intV .lss k x y KV = (KV (.bool (decide (x < y))))) /\
 (∀ (KV : Value->Prop) (k : IntKind) (x : Int) (y : Int), intV .leq k x y KV = (KV (.bool (decide (x <= y))))) /\
 (∀ (KV : Value->Prop) (k : IntKind) (x : Int) (y : Int), intV .gtr k x y KV = (KV (.bool (decide (y < x))))) /\
 (∀ (KV : Value->Prop) (k : IntKind) (x : Int) (y : Int), intV .geq k x y KV = (KV (.bool (decide (y <= x))))) /\
 (∀ (KV : Value->Prop) (k : IntKind) (x : Int) (y : Int), intV .and k x y KV = (KV (.int k (k.wrap (BitVec.ofInt k.bits x &&& BitVec.ofInt k.bits y).toNat)))) /\
 (∀ (KV : Value->Prop) (k : IntKind) (x : Int) (y : Int), intV .or k x y KV = (KV (.int k (k.wrap (BitVec.ofInt k.bits x ||| BitVec.ofInt k.bits y).toNat)))) /\
 (∀ (KV : Value->Prop) (k : IntKind) (x : Int) (y : Int), intV .xor k x y KV = (KV (.int k (k.wrap (BitVec.ofInt k.bits x ^^^ BitVec.ofInt k.bits y).toNat)))) /\
 (∀ (KV : Value->Prop) (k : IntKind) (x : Int) (y : Int), intV .andNot k x y KV = (KV (.int k (k.wrap (BitVec.ofInt k.bits x &&& ~~~ BitVec.ofInt k.bits y).toNat)))) /\
 (∀ (KV : Value->Prop) (k : IntKind) (x : Int) (y : Int), shiftV .shl k x y KV = (0 <= y /\ KV (.int k (k.wrap (x * 2 ^ (min y.toNat k.bits)))))) /\
 (∀ (KV : Value->Prop) (k : IntKind) (x : Int) (y : Int), shiftV .shr k x y KV = (0 <= y /\ KV (.int k (x.fdiv (2 ^ (min y.toNat k.bits)))))) /\
 (∀ (α : Type) (x y : α), (if True then x else y) = x) /\
 (∀ (α : Type) (x y : α), (if False then x else y) = y) /\
 (∀ (x y : Prop), (if True then x else y) = x) /\
 (∀ (x y : Prop), (if False then x else y) = y) /\
 decide True = true /\
 decide False = false /\
 (!true) = false /\
 (!false) = true /\
 (∀ (a : Addr), (some a).isSome = true) /\
 (∀ (a : Addr), (some a).isNone = false) /\
 ((none : Option Addr).isSome) = false /\
 ((none : Option Addr).isNone) = true /\
 ((Nat.cast 0 : Int) = 0) /\
 ((Nat.cast 1 : Int) = 1) /\
 (∀ (a : Option Addr), sh a 0 = a) /\
 (∀ (k : Nat), ((k : Int)).toNat = k) /\
 (∀ (k : Nat), k * 1 = k) /\
 (∀ (k : Nat), 0 + k = k) /\
 (∀ (o : Oper) (l : List Oper), (o :: l)[0]? = some o) /\
 (∀ (o : Value) (l : List Value), (o :: l)[0]? = some o) /\
 (∀ (f : Operand -> Value), List.map f [] = []) /\
 (∀ (l : List Operand), (List.toArray l).toList = l) /\
 (∀ (l : List Value), (List.toArray l).toList = l) /\
 (∀ (l : List Oper), (List.toArray l).toList = l) /\
 (∀ (l : List Value), (List.toArray l).size = l.length) /\
 (([] : List Value).length = 0) /\
 (∀ (l : List Value), [] ++ l = l) /\
 (∀ (x : Value), List.replicate 0 x = []) /\
 (∀ (f : Operand -> Value), Option.map f none = none) /\
 (∀ (p : Prop), (∀ _ : Nat -> Value, p) = p) /\
 (∀ (p : Prop), (True /\ p) = p) /\
 (∀ (p : Prop), (p /\ True) = p) /\
 (∀ (k : IntKind), (k = k) = True) /\
 (∀ (a : Option Addr), sh a 0 = a) /\
 (∀ (a : Option Addr) (k : Nat), (sh a k).isSome = a.isSome) /\
 (∀ (a : Addr), (some a).isSome = true) /\
 ((true = true) = True) := by
 refine ⟨?_, ?_, ?_, ?_, ?_, ?_, ?_, ?_, ?_, ?_, ?_, ?_, ?_, ?_, ?_, ?_, ?_, ?_, ?_, ?_, ?_, ?_, ?_, ?_, ?_, ?_, ?_, ?_, ?_, ?_, ?_, ?_, ?_, ?_, ?_, ?_, ?_, ?_, ?_, ?_, ?_, ?_, ?_, ?_, ?_, ?_, ?_, ?_, ?_, ?_, ?_, ?_, ?_, ?_, ?_, ?_, ?_, ?_, ?_, ?_, ?_, ?_, ?_, ?_, ?_, ?_, ?_, ?_, ?_, ?_, ?_, ?_, ?_, ?_, ?_, ?_, ?_, ?_, ?_, ?_, ?_, ?_, ?_, ?_, ?_, ?_, ?_, ?_⟩ <;> (intros; first | rfl | (simp only [GuardP.undef, GuardP.undef', GuardP.tt, GuardP.ff, GuardP.tf, GuardP.ft, CondP.t, CondP.f]; done) | (simp [sh_sh, sh_zero, sh_isSome]; done))
end Go.E
namespace Go.E
def Rd (w : World) (a : Option Addr) (vs : List Value) : Prop :=
 vs = [] ∨ ∃ p, a = some p /\ p.spot = none /\ ∀ k v, vs[k]? = some v -> w.cell? (p.add k) = some v
def arr (a : Option Addr) (vs : List Value) : Fact where
 holds Z := vs = [] ∨ ∃ p c T fr, a = some p /\ p.spot = none /\ Z p.block = some (.cells c T fr) /\ ∀ k v, vs[k]? = some v -> c[p.off + k]? = some v
 mono := fun _ _ hl h => h.imp id fun ⟨p, c, T, fr, h1, h2, h3, h4⟩ => ⟨p, c, T, fr, h1, h2, hl.1 _ _ h3, h4⟩
theorem add_plain {p : Addr} (h : p.spot = none) (k : Nat) : p.add k = ⟨p.block, p.off + k, none⟩ := by
 unfold Addr.add
 by_cases hk : k = 0
 . subst hk; cases p; simp_all
 . simp [hk]
section
variable {P : Program} {w : World} {O : List Res} {L : List Fact} {a : Option Addr} {vs : List Value}
theorem Rd.cells (h : Rd w a vs) (hn : vs ≠ []) : ∃ p, a = some p /\ p.spot = none /\ ∀ k v, vs[k]? = some v -> w.cell? (p.add k) = some v := h.resolve_left hn
theorem Rd.drop (h : Rd w a vs) (k : Nat) : Rd w (sh a k) (vs.drop k) := by
 rcases h with rfl | ⟨p, rfl, h1, h2⟩
 . exact .inl (by simp)
 . refine .inr ⟨p.add k, rfl, by rw [add_plain h1], fun j v hj => ?_⟩
   rw [List.getElem?_drop] at hj
   rw [Addr_add_add]
   exact h2 _ _ hj
theorem Rd.take (h : Rd w a vs) (k : Nat) : Rd w a (vs.take k) := by
 rcases h with rfl | ⟨p, rfl, h1, h2⟩
 . exact .inl (by simp)
 . refine .inr ⟨p, rfl, h1, fun j v hj => ?_⟩
   rw [List.getElem?_take] at hj
   split at hj
   . exact h2 _ _ hj
   . cases hj
theorem run_isAgg {t : TypeId} (ht : tis (tk P t) = true) (w : World) : (isAgg t).run P w = .ok (tagg (tk P t)) w := by
 simp only [isAgg, Sem.run_bind, run_underlying_tk ht]
 generalize tk P t = d at *
 cases d <;> rfl
theorem run_load1 {t : TypeId} {k : Nat} {v : Value} (h : Rd w a vs) (hk : vs[k]? = some v) (ht : (tis (tk P t) && !tagg (tk P t)) = true) :
 (Instr.loadAt t (.pointer (sh a k))).run P w = .ok v w := by
 simp only [Bool.and_eq_true, Bool.not_eq_true'] at ht
 obtain ⟨p, rfl, h1, h2⟩ := h.cells (by intro e; simp [e] at hk)
 have hc := h2 k v hk
 simp only [Instr.loadAt, sh, Option.map_some, Instr.sureAddr, loadVar, Sem.run_bind, Sem.run_pure, Result.andThen_ok, run_isAgg ht.1, ht.2, Bool.false_eq_true, if_false]
 simp [load, Sem.run, hc]
theorem run_loadn {t : TypeId} {k : Nat} (h : Rd w a vs) (n : Nat) (hn : tsz P t = n) (h0 : 0 < n) (hk : k + n <= vs.length) (ht : (tis (tk P t) && tagg (tk P t)) = true) :
 (Instr.loadAt t (.pointer (sh a k))).run P w = .ok (.agg ((vs.drop k).take n).toArray) w := by
 simp only [Bool.and_eq_true] at ht
 obtain ⟨p, rfl, h1, h2⟩ := h.cells (by intro e; simp [e] at hk; omega)
 obtain ⟨i, hi, hs, _⟩ := info_of_tsz (P := P) (t := t) (by omega)
 have hl : ((vs.drop k).take n).length = n := by simp; omega
 have hc := run_loadCells_list (P := P) w (p.add k) ((vs.drop k).take n) (fun j v hj => by
  rw [List.getElem?_take] at hj
  split at hj
  . rw [List.getElem?_drop] at hj
    rw [Addr_add_add]; exact h2 _ _ hj
  . cases hj)
 rw [hl] at hc
 simp only [Instr.loadAt, sh, Option.map_some, Instr.sureAddr, loadVar, Sem.run_bind, Sem.run_pure, Result.andThen_ok, run_isAgg ht.1, ht.2, if_true, sizeOf, typeInfo, run_program, hi, hs, hn, hc]
def wr (cs : List Value) (k : Nat) (vs : List Value) : List Value := cs.take k ++ vs ++ cs.drop (k + vs.length)
def buf (T : TypeId) (size : Nat) (a : Option Addr) (n c : Nat) (xs : List Value) : Res := fun ch =>
 xs.length = n * size /\
 ((a = none /\ n = 0 /\ c = 0 /\ ch = []) ∨
  ∃ g cur, a = some ⟨g, 0, none⟩ /\ ch = [(g, .cells cur T (0, 0))] /\ n <= c /\ c <= maxLen /\ cur.size = c * size /\ cur.toList.take (n * size) = xs)
theorem grownBy_turn {w' : World} {r r' : Res} (h : Ctx w (r :: O) L) (row : Option Nat) (hg : w.grownBy w' row)
 (ht : ∀ c, r c -> (∀ p ∈ c, w.heap[p.1]? = some p.2) -> (∀ k, row = some k -> k ∈ c.map (·.1)) /\ ∃ c', r' c' /\ (∀ p ∈ c', w'.heap[p.1]? = some p.2) /\ (c'.map (·.1)).Nodup /\ (∀ b ∈ c'.map (·.1), b ∈ c.map (·.1) ∨ w.heap.size <= b)) :
 Ctx w' (r' :: O) L := by
 refine h.turn ⟨hg.os, hg.output⟩ fun c hc hp _ => ?_
 obtain ⟨hrow, c', h1, h2, h3, h4⟩ := ht c hc hp
 exact ⟨c', h1, h2, h3, h4, fun b hb hn => hg.block b hb fun e => hn (hrow b e.symm)⟩
theorem run_append {t ty : TypeId} {T : TypeId} {size : Nat} {n c : Nat} {xs : List Value} {e : Option Addr} {m d : Nat} {ys : List Value} {z : Value}
 (h : Ctx w (buf T size a n c xs :: O) L) (ht : tk P t = .slice T) (hs : tsz P T = size) (h0 : 0 < size) (hz : tzr P T = some z) (hzs : z.cells.size = size) (hr : Rd w e ys) (hl : ys.length = m * size)
 (h1 : ∀ u ∈ ys, u.oneCell' = true) (hb : (n + m) * tby P T <= 140737488355328) (hm : n + m <= maxLen) :
 ∃ a' c' w', (Builtin.append_ #[t, t] ty #[.slice a n c, .slice e m d]).run P w = .ok (.slice a' (n + m) c') w' /\ Ctx w' (buf T size a' (n + m) c' (xs ++ ys) :: O) L := by
 have hp : ∃ ch, buf T size a n c xs ch /\ (∀ p ∈ ch, w.heap[p.1]? = some p.2) := by
  obtain ⟨Z, cs, g1, g2, g3, g4, g5⟩ := h
  obtain ⟨ch, cs', rfl, hr, _⟩ := g2.cons_inv
  exact ⟨ch, hr, fun p hp => (g3 p (by simp only [List.flatten_cons, List.mem_append]; exact .inl hp)).1⟩
 obtain ⟨ch, hbuf, hch⟩ := hp
 have htu : P.underlying t = some (.slice T) := by rw [<- ht]; exact underlying_some (by rw [ht]; rfl)
 obtain ⟨i, hi, hsz, hby, hzr⟩ := info_of_tsz (P := P) (t := T) (by omega)
 by_cases hm0 : m = 0
 . subst hm0
   have hys : ys = [] := List.eq_nil_of_length_eq_zero (by simpa using hl)
   subst hys
   have hnc : n <= c := by
    obtain ⟨_, ⟨rfl, rfl, rfl, rfl⟩ | ⟨g, cur, rfl, rfl, g1, _⟩⟩ := hbuf
    . exact Nat.le_refl _
    . exact g1
   refine ⟨a, c, w, ?_, by simpa using h⟩
   have hf : (Builtin.firstCells size 0 (.slice e 0 d)).run P w = .ok #[] w := by
    cases e <;> simp [Builtin.firstCells, loadCells, loadCellsFrom]
   cases a with
   | none => simp [Builtin.append_, run_underlying htu, sizeOf, typeInfo, hi, hsz, hs, Builtin.lenOf, hnc, hf]
   | some a => simp [Builtin.append_, run_underlying htu, sizeOf, typeInfo, hi, hsz, hs, Builtin.lenOf, hnc, hf, storeCells]
 . obtain ⟨q, rfl, hq1, hq2⟩ := hr.cells (by intro e; have : 0 < m * size := Nat.mul_pos (by omega) h0; rw [<- hl, e] at this; simp at this)
   have hown : w.ownsRow 0 T size (.slice a n c) n xs := by
    obtain ⟨hl', ⟨rfl, rfl, rfl, rfl⟩ | ⟨g, cur, rfl, rfl, g1, g2, g3, g4⟩⟩ := hbuf
    . exact ⟨hl', .inl ⟨rfl, rfl⟩⟩
    . exact ⟨hl', .inr ⟨g, c, cur, rfl, Nat.zero_le _, hch (g, _) (by simp), g1, g2, g3, g4⟩⟩
   obtain ⟨v', w', hrun, hown', hgr, hnil⟩ := run_append_own (P := P) w 0 t ty T i z size (tby P T) htu hi (by rw [hzr, hz]) (by rw [hsz, hs]) hby hzs h0 (.slice a n c) n xs hown q m d ys hl hq2 h1 hm hb (Nat.zero_le _)
   have hv : ∃ g cap cur, v' = .slice (some ⟨g, 0, none⟩) (n + m) cap /\ w'.heap[g]? = some (.cells cur T (0, 0)) /\ n + m <= cap /\ cap <= maxLen /\ cur.size = cap * size /\ cur.toList.take ((n + m) * size) = xs ++ ys := by
    rcases hown'.2 with ⟨e1, _⟩ | ⟨g, cap, cur, e1, _, e2, e3, e4, e5, e6⟩
    . exact absurd (hnil.1 e1).2 hm0
    . exact ⟨g, cap, cur, e1, e2, e3, e4, e5, e6⟩
   obtain ⟨g', cap, cur', rfl, e2, e3, e4, e5, e6⟩ := hv
   refine ⟨some ⟨g', 0, none⟩, cap, w', hrun, ?_⟩
   have hblk : a = some ⟨g', 0, none⟩ ∨ w.heap.size <= g' := by
    by_cases hroom : n + m <= c /\ a.isSome = true
    . obtain ⟨_, ⟨rfl, rfl, rfl, rfl⟩ | ⟨g, cur, rfl, rfl, g1, g2, g3, g4⟩⟩ := hbuf
      . simp at hroom
      . have hfit : n * i.size + ys.length <= cur.size := by rw [hl, g3, hsz, hs, <- Nat.add_mul]; exact Nat.mul_le_mul_right _ hroom.1
        have := run_append_room (P := P) w t ty T i htu hi g n c cur (hch (g, _) (by simp)) q m d ys (by rw [hl, hsz, hs]) hq2 h1 hroom.1 hfit
        rw [this] at hrun
        cases hrun
        exact .inl rfl
    . obtain ⟨hl', ⟨rfl, rfl, rfl, rfl⟩ | ⟨g, cur, rfl, rfl, g1, g2, g3, g4⟩⟩ := hbuf
      . have := run_append_nil (P := P) w t ty T i z htu hi (by rw [hzr, hz]) q m d ys (by rw [hl, hsz, hs]) hq2 (by omega) (by simp only [maxLen] at hm; omega) (by rw [hby]; exact Nat.le_trans (by simpa using hb) (by decide))
        simp only [Nat.zero_add] at hrun
        rw [this] at hrun
        cases hrun
        exact .inr (Nat.le_refl _)
      . have hroom' : ¬ n + m <= c := by simpa using hroom
        have := run_append_grow (P := P) w t ty T i z htu hi (by rw [hzr, hz]) ⟨g, 0, none⟩ n c xs (by rw [hl', hsz, hs]) (hown.cells (g := g) rfl) q m d ys (by rw [hl, hsz, hs]) hq2 (by omega) (by simp only [maxLen] at hm; omega) (by rw [hby]; exact growslice_fits (by omega) hb)
        rw [this] at hrun
        cases hrun
        exact .inr (Nat.le_refl _)
   refine grownBy_turn h _ hgr fun c1 hc1 hp1 => ?_
   obtain ⟨hl', ⟨rfl, rfl, rfl, rfl⟩ | ⟨g, cur, rfl, rfl, g1, g2, g3, g4⟩⟩ := hc1
   . refine ⟨fun k hk => by simp [Value.ownBlock] at hk, [(g', .cells cur' T (0, 0))], ⟨by rw [List.length_append, hl', hl, Nat.add_mul], .inr ⟨g', cur', rfl, rfl, e3, e4, e5, e6⟩⟩, by simpa using e2, by simp, fun b hb' => ?_⟩
     simp at hb'
     subst hb'
     exact .inr (hblk.resolve_left (by simp))
   . refine ⟨fun k hk => by simp [Value.ownBlock] at hk; simp [hk], [(g', .cells cur' T (0, 0))], ⟨by rw [List.length_append, hl', hl, Nat.add_mul], .inr ⟨g', cur', rfl, rfl, e3, e4, e5, e6⟩⟩, by simpa using e2, by simp, fun b hb' => ?_⟩
     simp at hb'
     subst hb'
     rcases hblk with hblk | hblk
     . cases hblk; exact .inl (by simp)
     . exact .inr hblk
end
end Go.E
namespace Go.E
section
variable {P : Program} {w : World} {O : List Res} {L : List Fact} {a : Option Addr} {vs : List Value}
def num (v : Value) : Nat := match v with
 | .int _ n => n.toNat
 | _ => 0
end
end Go.E
namespace Go.E
section
variable {P : Program} {w : World} {O : List Res} {L L' : List Fact} {a : Option Addr} {vs : List Value}
end
section
variable {P : Program} {α ζ : Type}
end
end Go.E
namespace Go.E
section
variable {P : Program} {w : World} {O : List Res} {L : List Fact} {a : Option Addr} {vs : List Value} {K : Value -> World -> Prop}
theorem Yld.mono {P : Program} {l : Nat} {args : Array Value} {w : World} {K K' : Value -> World -> Prop} (h : Yld P l args w K) (hk : ∀ v w, K v w -> K' v w) : Yld P l args w K' := by
 obtain ⟨fn, tmps, assign, body, h1, h2⟩ := h
 exact ⟨fn, tmps, assign, body, h1, RoundIn.mono h2 fun e w' ⟨v, e1, h3⟩ => ⟨v, e1, hk _ _ h3⟩⟩
def sa (a : Option Addr) (l c sz : Nat) : Option Addr := if c = l then a else sh a (l * sz)
theorem run_slice {t e : TypeId} {n c l h : Nat} (ht : tk P t = .slice e) (hs : tsz P e ≠ 0) (hl : l <= h) (hh : h <= c) (lo hi : Option Value) (k1 k2 : IntKind)
 (hlo : lo = some (.int k1 l) ∨ (lo = none /\ l = 0)) (hhi : hi = some (.int k2 h) ∨ (hi = none /\ h = n)) (w : World) :
 (Instr.sliceAt t (.slice a n c) lo hi none).run P w = .ok (.slice (sa a l c (tsz P e)) (h - l) (c - l)) w := by
 obtain ⟨i, hi', hsz, _⟩ := info_of_tsz hs
 have e1 : (Instr.sliceAt t (.slice a n c) lo hi none).run P w = (Instr.slice t (.slice a n c) lo hi none).run P w := by
  simp only [Instr.sliceAt, Sem.run_bind, tis_of ht rfl, Result.andThen_ok]
 rw [e1]
 have hb : (Instr.sliceBounds true n c lo hi none).run P w = .ok (l, h, c) w := by
  have g2 : ∀ u, (Instr.sliceBound (.int k2 (h : Int)) c u).run P w = .ok h w := fun u => by simp [Instr.sliceBound, asIntOf, hh]
  have g1 : ∀ u, (Instr.sliceBound (.int k1 (l : Int)) h u).run P w = .ok l w := fun u => by simp [Instr.sliceBound, asIntOf, hl]
  rcases hlo with rfl | ⟨rfl, rfl⟩ <;> rcases hhi with rfl | ⟨rfl, rfl⟩ <;> simp [Instr.sliceBounds, g1, g2]
 simp only [Instr.slice, Sem.run_bind, tis_of ht rfl, Result.andThen_ok, hb, sizeOf, typeInfo, run_program, hi', hsz, Sem.run_pure, sa, sh]
theorem sa_zero (a : Option Addr) (c sz : Nat) : sa a 0 c sz = a := by unfold sa; split <;> simp [sh_zero]
def hdr (h : Option Addr × Nat) (l : List UInt8) : Value := .slice h.1 l.length h.2
end
end Go.E
namespace Go.E
open Go.ChangeShapes Go.WideShapes Go.ChangeAt Go.RowKit
section
variable {P : Program} {w W W' : World} {O : List Res} {L : List Fact} {a : Option Addr} {vs : List Value}
theorem arr_holds {Z : Heap} (hw : (whole W).holds Z) (hr : Rd W a vs) : (arr a vs).holds Z := by
 rcases hr with rfl | ⟨p, rfl, h1, h2⟩
 . exact .inl rfl
 . by_cases hv : vs = []
   . exact .inl hv
   . refine .inr ?_
     have h0 : ∃ c T fr, W.heap[p.block]? = some (.cells c T fr) := by
      obtain ⟨v, hv⟩ : ∃ v, vs[0]? = some v := by
       cases vs with
       | nil => exact absurd rfl hv
       | cons v _ => exact ⟨v, rfl⟩
      have := h2 0 v hv
      rw [add_plain h1] at this
      unfold World.cell? at this
      simp only at this
      split at this
      . rename_i c T fr hc; exact ⟨c, T, fr, hc⟩
      . cases this
     obtain ⟨c, T, fr, hc⟩ := h0
     refine ⟨p, c, T, fr, rfl, h1, hw.1 _ _ hc, fun k v hk => ?_⟩
     have := h2 k v hk
     rw [add_plain h1] at this
     simpa [World.cell?, hc] using this
theorem sameAt_of (h : Ctx W' O L) (hw : whole W ∈ L) {p : MemPlace} (hp : p.block < W.heap.size) : W.sameAt W' p := by
 have hb := (h.whole_grown hw).1 p.block hp
 cases p with
 | cell b o => exact World.cell?_of_block (w := W) hb
 | map b => exact hb
theorem kept_of (h : Ctx W' O L) (hw : whole W ∈ L) (may : MemPlace -> Prop) : W.keptBut W' may := by
 obtain ⟨hb, _, h1, h2⟩ := h.whole_grown hw
 refine ⟨h1, h2, fun i hi => ?_⟩
 rw [hb i hi]
 split <;> simp_all
variable {H : Type} {enc : TypeId × Value -> H}
theorem trodAll_stays (hl : laidOutB P = true) {sp : Nat -> Bool} : ∀ {ts : List TypeId} {vs : List Value} {ds : List (DataW H)} {ps : List MemPlace}, (ts.all fun t => P.readableRec t && decide (t < P.types.size)) = true ->
 DataW.TrodAll enc P W 0 (fun _ => true) true ts vs ds ps -> (∀ p ∈ ps, W.sameAt W' p) -> (∀ p ∈ ps, sp p.block = true) -> DataW.TrodAll enc P W' 0 sp true ts vs ds ps
 | [], vs, ds, ps, _, h, _, _ => by obtain ⟨rfl, rfl, rfl⟩ := trodAll_nil h; exact trodAll_mk0
 | t :: ts, vs, ds, ps, hr, h, hs, hp => by
   obtain ⟨v, vs', d, ds', p, q, rfl, rfl, rfl, h0, r0⟩ := trodAll_cons h
   simp only [List.all_cons, Bool.and_eq_true, decide_eq_true_eq] at hr
   exact trodAll_cons_mk (WideElems.Trod_stays hl hr.1.1 hr.1.2 h0 (fun x hx => hs x (by simp [hx])) (fun x hx => hp x (by simp [hx])))
    (trodAll_stays hl hr.2 r0 (fun x hx => hs x (by simp [hx])) (fun x hx => hp x (by simp [hx])))
theorem law_post {f : Func} {s : ChangeSpec} {args : Array Value} {ds gs : List (DataW H)} {before : List MemPlace} (tb : TypeId) (hl : laidOutB P = true) (hr : (f.params.toList.all fun t => P.readableRec t && decide (t < P.types.size)) = true)
 (hres : f.resultTypes = #[tb]) (htb : P.underlying tb = some .bool) (hvars : s.vars = []) (hfn : s.fn H (ds ++ gs) = { results := [.lit (.bool true)], args := ds })
 (hW : DataW.Whole enc P f.params.toList s.vars false W args.toList ds gs before) (h : Ctx W' O L) (hw : whole W ∈ L) : s.post enc P f false true false false W args (.bool true) W' := by
 have hlt : ∀ p ∈ before, p.block < W.heap.size := fun p hp => hW.lt p hp
 have hW' := hW
 obtain ⟨p, q, hA, hV, rfl, hz, hn⟩ := hW
 rw [hvars] at hV
 obtain ⟨rfl, rfl⟩ := trodVars_none hV
 refine ⟨ds, [], p ++ [], [], p, [], hW', ?_, ?_, ?_, kept_of h hw _, fun h => by cases h⟩
 . rw [hfn, hres]
   exact trodAll_cons_mk (shut_bool htb _) trodAll_mk0
 . rw [hfn]
   exact trodAll_stays hl hr hA (fun x hx => sameAt_of h hw (hlt x (by simp [hx]))) (fun x hx => by simpa using hlt x (by simp [hx]))
 . rw [hfn, hvars]
   rfl
theorem law_calls {f : FuncId} {fn : Func} {s : ChangeSpec} {args : Array Value} {ds gs : List (DataW H)} {before : List MemPlace} (tb : TypeId) (hl : laidOutB P = true) (hr : (fn.params.toList.all fun t => P.readableRec t && decide (t < P.types.size)) = true)
 (hres : fn.resultTypes = #[tb]) (htb : P.underlying tb = some .bool) (hvars : s.vars = []) (hfn : s.fn H (ds ++ gs) = { results := [.lit (.bool true)], args := ds })
 (hW : DataW.Whole enc P fn.params.toList s.vars false W args.toList ds gs before) (h : Ret P f args W fun v w' => v = .bool true /\ ∃ O L, Ctx w' O L /\ whole W ∈ L) :
 Calls P f args W fun e W' => ∃ v, e = .returned v /\ s.post enc P fn false true false false W args v W' := by
 refine Calls.mono h fun e W' ⟨v, he, hv, O, L, hc, hw⟩ => ⟨v, he, ?_⟩
 subst hv
 exact law_post tb hl hr hres htb hvars hfn hW hc hw
theorem spot_none {a : Addr} {v : Value} (h : W.cell? a = some v) : a.spot = none := by
 unfold World.cell? at h
 split at h
 . split at h
   . cases h
   . rename_i hs; simpa using hs
 . cases h
theorem weightsAll_mem {e : TypeId} : ∀ {l : List (DataW H)} {d : DataW H}, d ∈ l -> ∀ n ∈ d.weights P e, n ∈ DataW.weightsAll P e l
 | x :: l, d, hd, n, hn => by
   simp only [DataW.weightsAll, List.mem_append]
   rcases List.mem_cons.1 hd with rfl | hd
   . exact .inl hn
   . exact .inr (weightsAll_mem hd n hn)
end
end Go.E
namespace Go.E
inductive AV where
 | p (v : Value)
 | any
 | ptr (i off : Nat)
 | sl (i off n : Nat)
 | vp (cs : List AV) (off : Nat)
 | vs (cs : List AV) (n : Nat)
 | ag (cs : List AV)
 | tu (cs : List AV)
 | fn (f : FuncId) (cs : List AV)
 | ic (t : TypeId) (v : AV)
 | mp (i : Nat)
 | yl (i : Nat)
 deriving Inhabited
abbrev oB : AV := .p (.int .u8 0)
abbrev oQ : AV := .p (.int .u64 0)
abbrev oI : AV := .p (.int .i64 0)
abbrev oW : AV := .p (.int .u32 0)
def AV.one : AV -> Bool
 | .p v => v.oneCell'
 | .any => false
 | .ag _ => false
 | .tu _ => false
 | _ => true
structure BI where
 blk : Option Nat
 cap : Nat
 grow : Bool
inductive AObj where
 | cells (T : TypeId) (cs : List AV)
 | buf (T : TypeId) (sz : Nat) (cs : List AV)
 | map (es : List (Value × AV))
 | raw (o : Obj)
 | rcd (o : Obj) (cs : List AV) (vs : List Value)
 | gone
abbrev Tbl := List AObj
inductive Rel (Z : Heap) : List BI -> AV -> Value -> Prop
 | p {ρ : List BI} (v : Value) : Rel Z ρ (.p v) v
 | any {ρ : List BI} (v : Value) : Rel Z ρ .any v
 | ptr {ρ : List BI} {i off b : Nat} {x : BI} (h : ρ[i]? = some x) (hb : x.blk = some b) : Rel Z ρ (.ptr i off) (.pointer (some ⟨b, off, none⟩))
 | sl {ρ : List BI} {i off n c : Nat} {x : BI} {a : Option Addr} (h : ρ[i]? = some x) (ha : 0 < n ∨ off = 0 -> a = x.blk.map fun b => ⟨b, off, none⟩) (hc : n <= c) (h0 : off = 0 -> x.grow = true -> c = x.cap) : Rel Z ρ (.sl i off n) (.slice a n c)
 | vp {ρ : List BI} {cs : List AV} {off b o : Nat} {c : Array Value} {T : TypeId} {fr : Nat × Nat} {f : Nat -> Value} (hb : Z b = some (.cells c T fr)) (hc : ∀ k, k < cs.length -> c[o + k]? = some (f k))
  (hr : ∀ k (h : k < cs.length), Rel Z [] (cs[k]) (f k)) : Rel Z ρ (.vp cs off) (.pointer (some ⟨b, o + off, none⟩))
 | vs0 {ρ : List BI} {cs : List AV} {n c : Nat} {a : Option Addr} (h : cs = [] ∨ n = 0) (hc : n <= c) : Rel Z ρ (.vs cs n) (.slice a n c)
 | vs {ρ : List BI} {cs : List AV} {n m b o : Nat} {c : Array Value} {T : TypeId} {fr : Nat × Nat} {f : Nat -> Value} (hm : n <= m) (hb : Z b = some (.cells c T fr)) (hc : ∀ k, k < cs.length -> c[o + k]? = some (f k))
  (hr : ∀ k (h : k < cs.length), Rel Z [] (cs[k]) (f k)) : Rel Z ρ (.vs cs n) (.slice (some ⟨b, o, none⟩) n m)
 | ag {ρ : List BI} {cs : List AV} {vs : List Value} (hl : cs.length = vs.length) (h : ∀ k (h1 : k < cs.length) (h2 : k < vs.length), Rel Z ρ (cs[k]) (vs[k])) : Rel Z ρ (.ag cs) (.agg vs.toArray)
 | tu {ρ : List BI} {cs : List AV} {vs : List Value} (hl : cs.length = vs.length) (h : ∀ k (h1 : k < cs.length) (h2 : k < vs.length), Rel Z ρ (cs[k]) (vs[k])) : Rel Z ρ (.tu cs) (.tuple vs.toArray)
 | fn {ρ : List BI} {g : FuncId} {cs : List AV} {vs : List Value} (hl : cs.length = vs.length) (h : ∀ k (h1 : k < cs.length) (h2 : k < vs.length), Rel Z ρ (cs[k]) (vs[k])) : Rel Z ρ (.fn g cs) (.func (.func g) #[] vs.toArray)
 | ic {ρ : List BI} {t : TypeId} {v : AV} {x : Value} (h : Rel Z ρ v x) : Rel Z ρ (.ic t v) (.iface t x)
 | mp {ρ : List BI} {i b : Nat} {x : BI} (h : ρ[i]? = some x) (hb : x.blk = some b) : Rel Z ρ (.mp i) (.map (some b))
 | yl {ρ : List BI} {i b : Nat} {x : BI} (h : ρ[i]? = some x) (hb : x.blk = some b) : Rel Z ρ (.yl i) (.func (.yield b) #[] #[])
def RelL (Z : Heap) (ρ : List BI) (cs : List AV) (vs : List Value) : Prop := cs.length = vs.length /\ ∀ (k : Nat) (a : AV) (v : Value), cs[k]? = some a -> vs[k]? = some v -> Rel Z ρ a v
section
variable {Z Z' : Heap} {ρ ρ' : List BI} {cs ds : List AV} {vs us : List Value} {a : AV} {v : Value}
theorem RelL.nil : RelL Z ρ [] [] := ⟨rfl, by simp⟩
theorem RelL.cons (h : Rel Z ρ a v) (hs : RelL Z ρ cs vs) : RelL Z ρ (a :: cs) (v :: vs) := by
 refine ⟨by simp [hs.1], fun k x y hx hy => ?_⟩
 cases k with
 | zero => simp at hx hy; subst hx; subst hy; exact h
 | succ k => exact hs.2 k x y (by simpa using hx) (by simpa using hy)
theorem RelL.uncons (h : RelL Z ρ (a :: cs) vs) : ∃ v us, vs = v :: us /\ Rel Z ρ a v /\ RelL Z ρ cs us := by
 cases vs with
 | nil => have := h.1; simp at this
 | cons v us => exact ⟨v, us, rfl, h.2 0 a v rfl rfl, by have := h.1; simpa using this, fun k x y hx hy => h.2 (k + 1) x y (by simpa using hx) (by simpa using hy)⟩
theorem RelL.unnil (h : RelL Z ρ [] vs) : vs = [] := List.eq_nil_of_length_eq_zero h.1.symm
theorem RelL.get (h : RelL Z ρ cs vs) {k : Nat} (hk : cs[k]? = some a) : ∃ v, vs[k]? = some v /\ Rel Z ρ a v := by
 obtain ⟨hk', rfl⟩ := List.getElem?_eq_some_iff.1 hk
 have hk2 : k < vs.length := by rw [<- h.1]; exact hk'
 exact ⟨vs[k], by simp [hk2], h.2 k _ _ hk (by simp [hk2])⟩
theorem RelL.append (h : RelL Z ρ cs vs) (h' : RelL Z ρ ds us) : RelL Z ρ (cs ++ ds) (vs ++ us) := by
 refine ⟨by simp [h.1, h'.1], fun k x y hx hy => ?_⟩
 by_cases hk : k < cs.length
 . rw [List.getElem?_append_left hk] at hx
   rw [List.getElem?_append_left (by rw [<- h.1]; exact hk)] at hy
   exact h.2 k x y hx hy
 . rw [List.getElem?_append_right (by omega)] at hx
   rw [List.getElem?_append_right (by rw [<- h.1]; omega), <- h.1] at hy
   exact h'.2 _ x y hx hy
theorem RelL.take (h : RelL Z ρ cs vs) (n : Nat) : RelL Z ρ (cs.take n) (vs.take n) := by
 refine ⟨by simp [h.1], fun k x y hx hy => ?_⟩
 rw [List.getElem?_take] at hx hy
 split at hx
 . rename_i hk; rw [if_pos hk] at hy; exact h.2 k x y hx hy
 . cases hx
theorem RelL.drop (h : RelL Z ρ cs vs) (n : Nat) : RelL Z ρ (cs.drop n) (vs.drop n) := by
 refine ⟨by simp [h.1], fun k x y hx hy => ?_⟩
 rw [List.getElem?_drop] at hx hy
 exact h.2 _ x y hx hy
theorem RelL.set (h : RelL Z ρ cs vs) (hv : Rel Z ρ a v) (k : Nat) : RelL Z ρ (cs.set k a) (vs.set k v) := by
 refine ⟨by simp [h.1], fun j x y hx hy => ?_⟩
 by_cases hj : k = j
 . subst hj
   rw [List.getElem?_set] at hx hy
   rw [if_pos rfl] at hx hy
   split at hx
   . rename_i hk; rw [if_pos (by rw [<- h.1]; exact hk)] at hy; cases hx; cases hy; exact hv
   . cases hx
 . rw [List.getElem?_set_ne hj] at hx hy; exact h.2 j x y hx hy
theorem RelL.of_all (hl : cs.length = vs.length) (h : ∀ k (h1 : k < cs.length) (h2 : k < vs.length), Rel Z ρ (cs[k]) (vs[k])) : RelL Z ρ cs vs := by
 refine ⟨hl, fun k x y hx hy => ?_⟩
 obtain ⟨h1, rfl⟩ := List.getElem?_eq_some_iff.1 hx
 obtain ⟨h2, rfl⟩ := List.getElem?_eq_some_iff.1 hy
 exact h k h1 h2
theorem RelL.all (h : RelL Z ρ cs vs) : ∀ k (h1 : k < cs.length) (h2 : k < vs.length), Rel Z ρ (cs[k]) (vs[k]) := fun k h1 h2 => h.2 k _ _ (by simp [h1]) (by simp [h2])
theorem Rel.ag' (h : RelL Z ρ cs vs) : Rel Z ρ (.ag cs) (.agg vs.toArray) := .ag h.1 h.all
theorem Rel.tu' (h : RelL Z ρ cs vs) : Rel Z ρ (.tu cs) (.tuple vs.toArray) := .tu h.1 h.all
theorem Rel.ag_inv (h : Rel Z ρ (.ag cs) v) : ∃ vs, v = .agg vs.toArray /\ RelL Z ρ cs vs := by cases h with | ag hl h => exact ⟨_, rfl, .of_all hl h⟩
theorem Rel.tu_inv (h : Rel Z ρ (.tu cs) v) : ∃ vs, v = .tuple vs.toArray /\ RelL Z ρ cs vs := by cases h with | tu hl h => exact ⟨_, rfl, .of_all hl h⟩
theorem Rel.fn_inv {g : FuncId} (h : Rel Z ρ (.fn g cs) v) : ∃ vs, v = .func (.func g) #[] vs.toArray /\ RelL Z ρ cs vs := by cases h with | fn hl h => exact ⟨_, rfl, .of_all hl h⟩
theorem Rel.p_inv {x : Value} (h : Rel Z ρ (.p x) v) : v = x := by cases h; rfl
theorem RelL.ps (vs : List Value) : RelL Z ρ (vs.map .p) vs := by
 refine ⟨by simp, fun k x y hx hy => ?_⟩
 rw [List.getElem?_map, hy] at hx
 cases hx; exact .p _
theorem RelL.ps_inv {us : List Value} (h : RelL Z ρ (us.map .p) vs) : vs = us := by
 refine List.ext_getElem? fun k => ?_
 by_cases hk : k < us.length
 . obtain ⟨v, hv, hr⟩ := h.get (k := k) (a := .p us[k]) (by simp [hk])
   rw [hv, hr.p_inv]; simp [hk]
 . have hl := h.1
   simp only [List.length_map] at hl
   rw [List.getElem?_eq_none (by omega), List.getElem?_eq_none (by omega)]
theorem Rel.mono (h : Rel Z ρ a v) (hle : Heap.le Z Z') (hρ : ∀ (i : Nat) (x : BI), ρ[i]? = some x -> ρ'[i]? = some x) : Rel Z' ρ' a v := by
 induction h generalizing ρ' with
 | p v => exact .p v
 | any v => exact .any v
 | ptr h hb => exact .ptr (hρ _ _ h) hb
 | sl h ha hc h0 => exact .sl (hρ _ _ h) ha hc h0
 | vp hb hc _ ih => exact .vp (hle.1 _ _ hb) hc fun k hk => ih k hk (by simp)
 | vs0 h hc => exact .vs0 h hc
 | vs hm hb hc _ ih => exact .vs hm (hle.1 _ _ hb) hc fun k hk => ih k hk (by simp)
 | ag hl _ ih => exact .ag hl fun k h1 h2 => ih k h1 h2 hρ
 | tu hl _ ih => exact .tu hl fun k h1 h2 => ih k h1 h2 hρ
 | fn hl _ ih => exact .fn hl fun k h1 h2 => ih k h1 h2 hρ
 | ic _ ih => exact .ic (ih hρ)
 | mp h hb => exact .mp (hρ _ _ h) hb
 | yl h hb => exact .yl (hρ _ _ h) hb
theorem RelL.mono (h : RelL Z ρ cs vs) (hle : Heap.le Z Z') (hρ : ∀ (i : Nat) (x : BI), ρ[i]? = some x -> ρ'[i]? = some x) : RelL Z' ρ' cs vs := ⟨h.1, fun k x y hx hy => (h.2 k x y hx hy).mono hle hρ⟩
end
mutual
def AV.wo (q : Nat -> Bool) : AV -> AV
 | .ptr j o => if q j then .any else .ptr j o
 | .sl j o n => if q j then .any else .sl j o n
 | .mp j => if q j then .any else .mp j
 | .yl j => if q j then .any else .yl j
 | .ag cs => .ag (AV.woL q cs)
 | .tu cs => .tu (AV.woL q cs)
 | .fn f cs => .fn f (AV.woL q cs)
 | .ic t v => .ic t (AV.wo q v)
 | .p v => .p v
 | .any => .any
 | .vp cs o => .vp cs o
 | .vs cs n => .vs cs n
def AV.woL (q : Nat -> Bool) : List AV -> List AV
 | [] => []
 | a :: r => AV.wo q a :: AV.woL q r
end
theorem AV.woL_eq (q : Nat -> Bool) : ∀ (l : List AV), AV.woL q l = l.map (AV.wo q)
 | [] => by rw [AV.woL]; rfl
 | a :: r => by rw [AV.woL, AV.woL_eq q r]; rfl
def AObj.wo (q : Nat -> Bool) : AObj -> AObj
 | .cells T cs => .cells T (cs.map (AV.wo q))
 | .buf T sz cs => .buf T sz (cs.map (AV.wo q))
 | .map es => .map (es.map fun e => (e.1, e.2.wo q))
 | .raw o => .raw o
 | .rcd o cs vs => .rcd o (cs.map (AV.wo q)) vs
 | .gone => .gone
def Kept (q : Nat -> Bool) (ρ ρ' : List BI) : Prop := ∀ (i : Nat) (x : BI), q i = false -> ρ[i]? = some x -> ρ'[i]? = some x
section
variable {Z Z' : Heap} {ρ ρ' : List BI} {cs : List AV} {vs : List Value} {a : AV} {v : Value} {q : Nat -> Bool}
theorem Rel.wo (h : Rel Z ρ a v) (hρ : Kept q ρ ρ') : Rel Z ρ' (a.wo q) v := by
 induction h generalizing ρ' with
 | p v => rw [AV.wo]; exact .p v
 | any v => rw [AV.wo]; exact .any v
 | ptr h hb => rw [AV.wo]; split <;> first | exact .any _ | exact .ptr (hρ _ _ (Bool.eq_false_iff.2 (by assumption)) h) hb
 | sl h ha hc h0 => rw [AV.wo]; split <;> first | exact .any _ | exact .sl (hρ _ _ (Bool.eq_false_iff.2 (by assumption)) h) ha hc h0
 | vp hb hc hr _ => rw [AV.wo]; exact .vp hb hc hr
 | vs0 h hc => rw [AV.wo]; exact .vs0 h hc
 | vs hm hb hc hr _ => rw [AV.wo]; exact .vs hm hb hc hr
 | ag hl _ ih => rw [AV.wo, AV.woL_eq]; exact .ag (by simpa using hl) fun k h1 h2 => by simpa using ih k (by simpa using h1) h2 hρ
 | tu hl _ ih => rw [AV.wo, AV.woL_eq]; exact .tu (by simpa using hl) fun k h1 h2 => by simpa using ih k (by simpa using h1) h2 hρ
 | fn hl _ ih => rw [AV.wo, AV.woL_eq]; exact .fn (by simpa using hl) fun k h1 h2 => by simpa using ih k (by simpa using h1) h2 hρ
 | ic _ ih => rw [AV.wo]; exact .ic (ih hρ)
 | mp h hb => rw [AV.wo]; split <;> first | exact .any _ | exact .mp (hρ _ _ (Bool.eq_false_iff.2 (by assumption)) h) hb
 | yl h hb => rw [AV.wo]; split <;> first | exact .any _ | exact .yl (hρ _ _ (Bool.eq_false_iff.2 (by assumption)) h) hb
theorem RelL.wo (h : RelL Z ρ cs vs) (hρ : Kept q ρ ρ') : RelL Z ρ' (cs.map (AV.wo q)) vs := by
 refine ⟨by simpa using h.1, fun k x y hx hy => ?_⟩
 rw [List.getElem?_map] at hx
 cases ha : cs[k]? with
 | none => rw [ha] at hx; cases hx
 | some a => rw [ha] at hx; cases hx; exact (h.2 k a y ha hy).wo hρ
theorem Rel.wo_eq (h : Rel Z ρ a v) (hq : ∀ i, i < ρ.length -> q i = false) : a.wo q = a := by
 have key : ∀ {i : Nat} {x : BI} {ρ : List BI}, (∀ i, i < ρ.length -> q i = false) -> ρ[i]? = some x -> q i = false := fun hq h => hq _ (List.getElem?_eq_some_iff.1 h).1
 induction h with
 | p v => rw [AV.wo]
 | any v => rw [AV.wo]
 | ptr h _ => rw [AV.wo, if_neg (by rw [key hq h]; simp)]
 | sl h _ hc h0 => rw [AV.wo, if_neg (by rw [key hq h]; simp)]
 | vp hb hc hr _ => rw [AV.wo]
 | vs0 _ hc => rw [AV.wo]
 | vs hm hb hc hr _ => rw [AV.wo]
 | ag hl _ ih => rw [AV.wo, AV.woL_eq]; congr 1; exact List.ext_getElem (by simp) fun k h1 h2 => by simpa using ih k h2 (by rw [<- hl]; exact h2) hq
 | tu hl _ ih => rw [AV.wo, AV.woL_eq]; congr 1; exact List.ext_getElem (by simp) fun k h1 h2 => by simpa using ih k h2 (by rw [<- hl]; exact h2) hq
 | fn hl _ ih => rw [AV.wo, AV.woL_eq]; congr 1; exact List.ext_getElem (by simp) fun k h1 h2 => by simpa using ih k h2 (by rw [<- hl]; exact h2) hq
 | ic _ ih => rw [AV.wo, ih hq]
 | mp h _ => rw [AV.wo, if_neg (by rw [key hq h]; simp)]
 | yl h _ => rw [AV.wo, if_neg (by rw [key hq h]; simp)]
theorem RelL.wo_eq (h : RelL Z ρ cs vs) (hq : ∀ i, i < ρ.length -> q i = false) : cs.map (AV.wo q) = cs := by
 refine List.ext_getElem (by simp) fun k h1 h2 => ?_
 obtain ⟨v, _, hr⟩ := h.get (k := k) (a := cs[k]) (by simp [h2])
 simpa using hr.wo_eq hq
end
def MapRel (Z : Heap) (ρ : List BI) (es : List (Value × AV)) (ms : List MapEntry) (clock : Nat) : Prop :=
 RelL Z ρ (es.map (·.2)) (ms.map (·.val)) /\ es.map (·.1) = ms.map (·.key) /\ (ms.map (·.born)).Nodup /\ (∀ e ∈ ms, e.born < clock) /\ (ms.map (·.key)).Nodup
def ObjRel (Z : Heap) (ρ : List BI) (w : World) (x : BI) : AObj -> Prop
 | .cells T cs => x.grow = false /\ ∃ b vs, x.blk = some b /\ w.heap[b]? = some (.cells vs.toArray T (0, 0)) /\ RelL Z ρ cs vs
 | .buf T sz cs => (x.grow = true /\ 0 < sz) /\ ∃ n, cs.length = n * sz /\ n <= x.cap /\ ((x.blk = none /\ cs = [] /\ x.cap = 0) ∨
  ∃ b cur, x.blk = some b /\ w.heap[b]? = some (.cells cur T (0, 0)) /\ x.cap <= maxLen /\ cur.size = x.cap * sz /\ RelL Z ρ cs (cur.toList.take (n * sz)))
 | .map es => ∃ b ms c, x.blk = some b /\ w.heap[b]? = some (.map ms c) /\ MapRel Z ρ es ms.toList c
 | .raw o => ∃ b, x.blk = some b /\ w.heap[b]? = some o
 | .rcd o cs vs => ∃ b, x.blk = some b /\ w.heap[b]? = some o /\ RelL Z ρ cs vs
 | .gone => True
def AObj.live : AObj -> Bool
 | .gone => false
 | _ => true
theorem AObj.live_wo (q : Nat -> Bool) (o : AObj) : (o.wo q).live = o.live := by cases o <;> rfl
structure St (Z : Heap) (ρ : List BI) (T : Tbl) (w : World) : Prop where
 of : Z.ofc w
 len : ρ.length = T.length
 obj : ∀ (i : Nat) (o : AObj) (x : BI), T[i]? = some o -> ρ[i]? = some x -> ObjRel Z ρ w x o
 apart : ∀ (i : Nat) (o : AObj) (x : BI) (b : Nat), T[i]? = some o -> o.live = true -> ρ[i]? = some x -> x.blk = some b ->
  Z b = none /\ ∀ (j : Nat) (o' : AObj) (y : BI), j ≠ i -> T[j]? = some o' -> o'.live = true -> ρ[j]? = some y -> y.blk ≠ some b
section
variable {Z Z' : Heap} {ρ ρ' : List BI} {T : Tbl} {w w' : World} {x : BI} {o : AObj} {i : Nat}
theorem ObjRel.blk_lt (h : ObjRel Z ρ w x o) (hl : o.live = true) {b : Nat} (hb : x.blk = some b) : b < w.heap.size := by
 cases o with
 | cells T cs => obtain ⟨_, b', _, h1, h2, _⟩ := h; rw [hb] at h1; cases h1; exact (Array.getElem?_eq_some_iff.1 h2).1
 | buf T sz cs =>
   obtain ⟨_, _, _, _, ⟨h1, _⟩ | ⟨b', _, h1, h2, _⟩⟩ := h
   . rw [hb] at h1; cases h1
   . rw [hb] at h1; cases h1; exact (Array.getElem?_eq_some_iff.1 h2).1
 | map es => obtain ⟨b', _, _, h1, h2, _⟩ := h; rw [hb] at h1; cases h1; exact (Array.getElem?_eq_some_iff.1 h2).1
 | raw o => obtain ⟨b', h1, h2⟩ := h; rw [hb] at h1; cases h1; exact (Array.getElem?_eq_some_iff.1 h2).1
 | rcd o cs vs => obtain ⟨b', h1, h2, _⟩ := h; rw [hb] at h1; cases h1; exact (Array.getElem?_eq_some_iff.1 h2).1
 | gone => cases hl
theorem ObjRel.world (h : ObjRel Z ρ w x o) (hw : ∀ b, x.blk = some b -> w'.heap[b]? = w.heap[b]?) : ObjRel Z ρ w' x o := by
 cases o with
 | cells T cs => obtain ⟨h0, b, vs, h1, h2, h3⟩ := h; exact ⟨h0, b, vs, h1, by rw [hw b h1]; exact h2, h3⟩
 | buf T sz cs =>
   obtain ⟨h0, n, h1, h2, h3 | ⟨b, cur, h3, h4, h5⟩⟩ := h
   . exact ⟨h0, n, h1, h2, .inl h3⟩
   . exact ⟨h0, n, h1, h2, .inr ⟨b, cur, h3, by rw [hw b h3]; exact h4, h5⟩⟩
 | map es => obtain ⟨b, ms, c, h1, h2, h3⟩ := h; exact ⟨b, ms, c, h1, by rw [hw b h1]; exact h2, h3⟩
 | raw o => obtain ⟨b, h1, h2⟩ := h; exact ⟨b, h1, by rw [hw b h1]; exact h2⟩
 | rcd o cs vs => obtain ⟨b, h1, h2, h3⟩ := h; exact ⟨b, h1, by rw [hw b h1]; exact h2, h3⟩
 | gone => trivial
theorem ObjRel.mono (h : ObjRel Z ρ w x o) (hle : Heap.le Z Z') (hρ : ∀ (i : Nat) (x : BI), ρ[i]? = some x -> ρ'[i]? = some x) : ObjRel Z' ρ' w x o := by
 cases o with
 | cells T cs => obtain ⟨h0, b, vs, h1, h2, h3⟩ := h; exact ⟨h0, b, vs, h1, h2, h3.mono hle hρ⟩
 | buf T sz cs =>
   obtain ⟨h0, n, h1, h2, h3 | ⟨b, cur, h3, h4, h5, h6, h7⟩⟩ := h
   . exact ⟨h0, n, h1, h2, .inl h3⟩
   . exact ⟨h0, n, h1, h2, .inr ⟨b, cur, h3, h4, h5, h6, h7.mono hle hρ⟩⟩
 | map es => obtain ⟨b, ms, c, h1, h2, h3, h4⟩ := h; exact ⟨b, ms, c, h1, h2, h3.mono hle hρ, h4⟩
 | raw o => exact h
 | rcd o cs vs => obtain ⟨b, h1, h2, h3⟩ := h; exact ⟨b, h1, h2, h3.mono hle hρ⟩
 | gone => trivial
theorem ObjRel.wo {q : Nat -> Bool} (h : ObjRel Z ρ w x o) (hρ : Kept q ρ ρ') : ObjRel Z ρ' w x (o.wo q) := by
 cases o with
 | cells T cs => obtain ⟨h0, b, vs, h1, h2, h3⟩ := h; exact ⟨h0, b, vs, h1, h2, h3.wo hρ⟩
 | buf T sz cs =>
   obtain ⟨h0, n, h1, h2, h3⟩ := h
   refine ⟨h0, n, by simpa using h1, h2, ?_⟩
   rcases h3 with ⟨h3, h4, h5⟩ | ⟨b, cur, h3, h4, h5, h6, h7⟩
   . exact .inl ⟨h3, by subst h4; rfl, h5⟩
   . exact .inr ⟨b, cur, h3, h4, h5, h6, h7.wo hρ⟩
 | map es =>
   obtain ⟨b, ms, c, h1, h2, h3, h4, h5⟩ := h
   refine ⟨b, ms, c, h1, h2, ?_, ?_, h5⟩
   . have := h3.wo hρ; simpa [List.map_map, Function.comp_def] using this
   . simpa [List.map_map, Function.comp_def] using h4
 | raw o => exact h
 | rcd o cs vs => obtain ⟨b, h1, h2, h3⟩ := h; exact ⟨b, h1, h2, h3.wo hρ⟩
 | gone => trivial
theorem ObjRel.wo_eq {q : Nat -> Bool} (h : ObjRel Z ρ w x o) (hq : ∀ i, i < ρ.length -> q i = false) : o.wo q = o := by
 cases o with
 | cells T cs => obtain ⟨_, b, vs, h1, h2, h3⟩ := h; rw [AObj.wo, h3.wo_eq hq]
 | buf T sz cs =>
   obtain ⟨h0, n, h1, h2, ⟨h3, rfl, h5⟩ | ⟨b, cur, h3, h4, h5, h6, h7⟩⟩ := h
   . rfl
   . rw [AObj.wo, h7.wo_eq hq]
 | map es =>
   obtain ⟨b, ms, c, h1, h2, h3, h4, h5⟩ := h
   have e := h3.wo_eq hq
   rw [List.map_map] at e
   rw [AObj.wo]
   congr 1
   refine List.ext_getElem (by simp) fun k g1 g2 => ?_
   have := congrArg (·[k]?) e
   simp [g2] at this
   simp [this]
 | raw o => rfl
 | rcd o cs vs => obtain ⟨b, h1, h2, h3⟩ := h; rw [AObj.wo, h3.wo_eq hq]
 | gone => rfl
end
abbrev Eff := List (Nat × Bool)
structure Ext (Z : Heap) (ρ : List BI) (T : Tbl) (w : World) (Z' : Heap) (ρ' : List BI) (T' : Tbl) (w' : World) (es : Eff) : Prop where
 le : Heap.le Z Z'
 place : ∀ (i : Nat) (x : BI), ρ[i]? = some x -> (i, true) ∉ es -> ρ'[i]? = some x
 same : ∀ (i : Nat) (x : BI) (o : AObj) (b : Nat), T[i]? = some o -> o.live = true -> ρ[i]? = some x -> x.blk = some b -> (∀ t, (i, t) ∉ es) -> w'.heap[b]? = w.heap[b]? /\ ∃ o', T'[i]? = some o' /\ o'.live = true
section
variable {Z Z1 Z2 : Heap} {ρ ρ1 ρ2 : List BI} {T T1 T2 : Tbl} {w w1 w2 : World} {e1 e2 : Eff}
theorem Ext.refl (h : w1.heap = w.heap) : Ext Z ρ T w Z ρ T w1 [] := ⟨Heap.le_refl _, fun _ _ h _ => h, fun _ _ o _ ho hl _ _ _ => ⟨by rw [h], o, ho, hl⟩⟩
theorem Ext.more (h : Ext Z ρ T w Z1 ρ1 T1 w1 e1) (hs : ∀ x ∈ e1, x.1 < ρ.length -> x ∈ e2) : Ext Z ρ T w Z1 ρ1 T1 w1 e2 := by
 refine ⟨h.le, fun i x hx hn => h.place i x hx fun hm => hn (hs _ hm (List.getElem?_eq_some_iff.1 hx).1), fun i x o b ho hl hx hb hn => h.same i x o b ho hl hx hb fun t hm => hn t (hs _ hm (List.getElem?_eq_some_iff.1 hx).1)⟩
theorem Ext.trans (h : Ext Z ρ T w Z1 ρ1 T1 w1 e1) (h' : Ext Z1 ρ1 T1 w1 Z2 ρ2 T2 w2 e2) : Ext Z ρ T w Z2 ρ2 T2 w2 (e2 ++ e1) := by
 refine ⟨Heap.le_trans h.le h'.le, fun i x hx hn => ?_, fun i x o b ho hl hx hb hn => ?_⟩
 . simp only [List.mem_append, not_or] at hn
   exact h'.place i x (h.place i x hx hn.2) hn.1
 . simp only [List.mem_append, not_or] at hn
   obtain ⟨g1, o1, g2, g3⟩ := h.same i x o b ho hl hx hb fun t => (hn t).2
   obtain ⟨g4, g5⟩ := h'.same i x o1 b g2 g3 (h.place i x hx (hn true).2) hb fun t => (hn t).1
   exact ⟨g4.trans g1, g5⟩
end
end Go.E
namespace Go.E
section
variable {P : Program} {Z Z' : Heap} {ρ ρ' : List BI} {T : Tbl} {w w' : World} {x : BI} {o : AObj} {i : Nat} {cs : List AV} {vs : List Value} {a : AV} {v : Value}
theorem getElem?_snoc {α : Type _} (l : List α) (a : α) (i : Nat) : (l ++ [a])[i]? = if i = l.length then some a else l[i]? := by
 split
 . rename_i h; subst h; simp
 . rename_i h
   by_cases h' : i < l.length
   . rw [List.getElem?_append_left h']
   . rw [List.getElem?_eq_none (by simp; omega), List.getElem?_eq_none (by omega)]
theorem snoc_mono (ρ : List BI) (x : BI) : ∀ (i : Nat) (y : BI), ρ[i]? = some y -> (ρ ++ [x])[i]? = some y := by
 intro i y h
 rw [List.getElem?_append_left (List.getElem?_eq_some_iff.1 h).1]; exact h
theorem St.same (h : St Z ρ T w) (e : Alike w' w) : St Z ρ T w' :=
 ⟨⟨fun b o hb => by rw [e.1]; exact h.of.1 b o hb, e.2.1.trans h.of.2.1, e.2.2.trans h.of.2.2⟩, h.len, fun i o x h1 h2 => (h.obj i o x h1 h2).world fun b _ => by rw [e.1], h.apart⟩
theorem St.lt (h : St Z ρ T w) {b : Nat} {ob : Obj} (hb : Z b = some ob) : b < w.heap.size := by obtain ⟨o', e⟩ := (h.of.1 _ _ hb).ex; exact (Array.getElem?_eq_some_iff.1 e).1
theorem St.wf (h : St Z ρ T w) {q : Nat -> Bool} (hq : ∀ i, i < T.length -> q i = false) : T.map (AObj.wo q) = T := by
 refine List.ext_getElem (by simp) fun k h1 h2 => ?_
 have hk : k < ρ.length := by rw [h.len]; exact h2
 simpa using (h.obj k T[k] ρ[k] (by simp [h2]) (by simp [hk])).wo_eq (by rw [h.len]; exact hq)
theorem St.push (h : St Z ρ T w) (x : BI) (o : AObj) (hof : Z.ofc w') (hk : ∀ b, b < w.heap.size -> w'.heap[b]? = w.heap[b]?)
 (ho : ObjRel Z (ρ ++ [x]) w' x o) (hx : ∀ b, x.blk = some b -> w.heap.size <= b) : St Z (ρ ++ [x]) (T ++ [o]) w' /\ Ext Z ρ T w Z (ρ ++ [x]) (T ++ [o]) w' [] := by
 have hlen := h.len
 refine ⟨⟨hof, by simp [hlen], ?_, ?_⟩, ⟨Heap.le_refl _, fun i y hy _ => snoc_mono _ _ _ _ hy, fun i y o' b hT hl hy hb _ => ⟨hk b ((h.obj i o' y hT hy).blk_lt hl hb), o', ?_, hl⟩⟩⟩
 . intro i o' y h1 h2
   rw [getElem?_snoc] at h1 h2
   rw [hlen] at h2
   by_cases hi : i = T.length
   . rw [if_pos hi] at h1 h2
     cases h1; cases h2; exact ho
   . rw [if_neg hi] at h1 h2
     by_cases hl : o'.live = true
     . exact ((h.obj i o' y h1 h2).world (w' := w') fun b hb => hk b ((h.obj i o' y h1 h2).blk_lt hl hb)).mono (Heap.le_refl _) (snoc_mono _ _)
     . cases o' <;> first | exact (hl rfl).elim | trivial
 . intro i o' y b h1 hl h2 hb
   rw [getElem?_snoc] at h1 h2
   rw [hlen] at h2
   by_cases hi : i = T.length
   . rw [if_pos hi] at h1 h2
     cases h1; cases h2
     have hge := hx b hb
     refine ⟨?_, fun j o2 y2 hj g1 g2 g3 g4 => ?_⟩
     . cases hg : Z b with
       | none => rfl
       | some ob => have := h.lt hg; omega
     . rw [getElem?_snoc] at g1 g3
       rw [hlen] at g3
       rw [if_neg (by omega)] at g1 g3
       have := (h.obj j o2 y2 g1 g3).blk_lt g2 g4
       omega
   . rw [if_neg hi] at h1 h2
     obtain ⟨g0, g⟩ := h.apart i o' y b h1 hl h2 hb
     refine ⟨g0, fun j o2 y2 hj g1 g2 g3 => ?_⟩
     rw [getElem?_snoc] at g1 g3
     rw [hlen] at g3
     by_cases hj' : j = T.length
     . rw [if_pos hj'] at g1 g3
       cases g1; cases g3
       intro hb'
       have := hx b hb'
       have := (h.obj i o' y h1 h2).blk_lt hl hb
       omega
     . rw [if_neg hj'] at g1 g3
       exact g j o2 y2 hj g1 g2 g3
 . rw [getElem?_snoc, if_neg (by have := (List.getElem?_eq_some_iff.1 hT).1; omega)]; exact hT
theorem St.write (h : St Z ρ T w) (hT : T[i]? = some o) (hx : ρ[i]? = some x) (hl : o.live = true) (o' : AObj) (hl' : o'.live = true) (hk : ∀ b, x.blk ≠ some b -> w'.heap[b]? = w.heap[b]?) (ho : w'.os = w.os /\ w'.output = w.output)
 (hr : ObjRel Z ρ w' x o') : St Z ρ (T.set i o') w' /\ Ext Z ρ T w Z ρ (T.set i o') w' [(i, false)] := by
 have hi := (List.getElem?_eq_some_iff.1 hT).1
 have hget : ∀ j, (T.set i o')[j]? = if j = i then some o' else T[j]? := by
  intro j
  by_cases hj : j = i
  . subst hj; simp [hi]
  . rw [if_neg hj, List.getElem?_set_ne (Ne.symm hj)]
 refine ⟨⟨⟨fun b ob hb => ?_, ho.1.trans h.of.2.1, ho.2.trans h.of.2.2⟩, by simp [h.len], ?_, ?_⟩, ⟨Heap.le_refl _, fun _ _ h _ => h, ?_⟩⟩
 . by_cases hb' : x.blk = some b
   . have := (h.apart i o x b hT hl hx hb').1
     rw [this] at hb; cases hb
   . rw [hk b hb']; exact h.of.1 b ob hb
 . intro j o2 y h1 h2
   rw [hget] at h1
   by_cases hj : j = i
   . subst hj
     rw [if_pos rfl] at h1
     cases h1
     rw [hx] at h2; cases h2
     exact hr
   . rw [if_neg hj] at h1
     by_cases hl2 : o2.live = true
     . refine (h.obj j o2 y h1 h2).world fun b hb => hk b fun hb' => ?_
       exact (h.apart j o2 y b h1 hl2 h2 hb).2 i o x (Ne.symm hj) hT hl hx hb'
     . cases o2 <;> first | exact (hl2 rfl).elim | trivial
 . intro j o2 y b h1 hl2 h2 hb
   rw [hget] at h1
   have hcl : ∃ o3, T[j]? = some o3 /\ o3.live = true := by
    by_cases hj : j = i
    . subst hj; exact ⟨o, hT, hl⟩
    . rw [if_neg hj] at h1; exact ⟨o2, h1, hl2⟩
   obtain ⟨o3, g1, g2⟩ := hcl
   obtain ⟨g3, g4⟩ := h.apart j o3 y b g1 g2 h2 hb
   refine ⟨g3, fun k o4 z hkj k1 k2 k3 => ?_⟩
   rw [hget] at k1
   by_cases hki : k = i
   . subst hki
     exact g4 k o z hkj hT hl k3
   . rw [if_neg hki] at k1
     exact g4 k o4 z hkj k1 k2 k3
 . intro j y o2 b h1 hl2 h2 hb hn
   have hj : j ≠ i := by rintro rfl; exact hn false (by simp)
   refine ⟨hk b fun hb' => (h.apart j o2 y b h1 hl2 h2 hb).2 i o x (Ne.symm hj) hT hl hx hb', o2, ?_, hl2⟩
   rw [hget, if_neg hj]; exact h1
theorem St.move (h : St Z ρ T w) (hT : T[i]? = some o) (hx : ρ[i]? = some x) (hl : o.live = true) (x' : BI) (o' : AObj) (hl' : o'.live = true) (hk : ∀ b, b < w.heap.size -> x.blk ≠ some b -> w'.heap[b]? = w.heap[b]?) (ho : w'.os = w.os /\ w'.output = w.output)
 (hx' : ∀ b, x'.blk = some b -> x.blk = some b ∨ w.heap.size <= b) (hr : ObjRel Z (ρ.set i x') w' x' o') :
 St Z (ρ.set i x') ((T.map (AObj.wo (· == i))).set i o') w' /\ Ext Z ρ T w Z (ρ.set i x') ((T.map (AObj.wo (· == i))).set i o') w' [(i, true)] /\ Kept (· == i) ρ (ρ.set i x') := by
 have hi := (List.getElem?_eq_some_iff.1 hT).1
 have hi' := (List.getElem?_eq_some_iff.1 hx).1
 have hget : ∀ j, ((T.map (AObj.wo (· == i))).set i o')[j]? = if j = i then some o' else T[j]?.map (AObj.wo (· == i)) := by
  intro j
  by_cases hj : j = i
  . subst hj; simp [hi]
  . rw [if_neg hj, List.getElem?_set_ne (Ne.symm hj), List.getElem?_map]
 have hgetρ : ∀ j, (ρ.set i x')[j]? = if j = i then some x' else ρ[j]? := by
  intro j
  by_cases hj : j = i
  . subst hj; simp [hi']
  . rw [if_neg hj, List.getElem?_set_ne (Ne.symm hj)]
 have hkept : Kept (· == i) ρ (ρ.set i x') := fun j y hj hy => by
  rw [hgetρ, if_neg (by simpa using hj)]; exact hy
 have hother : ∀ j o2, j ≠ i -> ((T.map (AObj.wo (· == i))).set i o')[j]? = some o2 -> ∃ o3, T[j]? = some o3 /\ o2 = o3.wo (· == i) := by
  intro j o2 hj h1
  rw [hget, if_neg hj] at h1
  cases hTj : T[j]? with
  | none => rw [hTj] at h1; cases h1
  | some o3 => rw [hTj] at h1; cases h1; exact ⟨o3, rfl, rfl⟩
 have hout : ∀ j o2 y b, j ≠ i -> T[j]? = some o2 -> o2.live = true -> ρ[j]? = some y -> y.blk = some b -> b < w.heap.size /\ x.blk ≠ some b /\ x'.blk ≠ some b := by
  intro j o2 y b hj h1 hl2 h2 hb
  have hlt := (h.obj j o2 y h1 h2).blk_lt hl2 hb
  have hne : x.blk ≠ some b := (h.apart j o2 y b h1 hl2 h2 hb).2 i o x (Ne.symm hj) hT hl hx
  refine ⟨hlt, hne, fun hb' => ?_⟩
  rcases hx' b hb' with g | g
  . exact hne g
  . omega
 refine ⟨⟨⟨fun b ob hb => ?_, ho.1.trans h.of.2.1, ho.2.trans h.of.2.2⟩, by simp [h.len], ?_, ?_⟩, ⟨Heap.le_refl _, ?_, ?_⟩, hkept⟩
 . by_cases hb' : x.blk = some b
   . have := (h.apart i o x b hT hl hx hb').1
     rw [this] at hb; cases hb
   . rw [hk b (h.lt hb) hb']; exact h.of.1 b ob hb
 . intro j o2 y h1 h2
   rw [hgetρ] at h2
   by_cases hj : j = i
   . subst hj
     rw [hget, if_pos rfl] at h1
     rw [if_pos rfl] at h2
     cases h1; cases h2
     exact hr
   . rw [if_neg hj] at h2
     obtain ⟨o3, g1, rfl⟩ := hother j o2 hj h1
     by_cases hl2 : o3.live = true
     . refine ((h.obj j o3 y g1 h2).world (w' := w') fun b hb => ?_).wo hkept
       obtain ⟨k1, k2, _⟩ := hout j o3 y b hj g1 hl2 h2 hb
       exact hk b k1 k2
     . cases o3 <;> first | exact (hl2 rfl).elim | trivial
 . intro j o2 y b h1 hl2 h2 hb
   rw [hgetρ] at h2
   by_cases hj : j = i
   . subst hj
     rw [if_pos rfl] at h2
     cases h2
     refine ⟨?_, fun k o4 z hkj k1 k2 k3 k4 => ?_⟩
     . rcases hx' b hb with g | g
       . exact (h.apart j o x b hT hl hx g).1
       . cases hg : Z b with
         | none => rfl
         | some ob => have := h.lt hg; omega
     . obtain ⟨o5, g1, rfl⟩ := hother k o4 hkj k1
       rw [hgetρ, if_neg hkj] at k3
       exact (hout k o5 z b hkj g1 (by rwa [AObj.live_wo] at k2) k3 k4).2.2 hb
   . rw [if_neg hj] at h2
     obtain ⟨o3, g1, rfl⟩ := hother j o2 hj h1
     rw [AObj.live_wo] at hl2
     obtain ⟨g3, g4⟩ := h.apart j o3 y b g1 hl2 h2 hb
     refine ⟨g3, fun k o4 z hkj k1 k2 k3 => ?_⟩
     rw [hgetρ] at k3
     by_cases hki : k = i
     . subst hki
       rw [if_pos rfl] at k3
       cases k3
       exact (hout j o3 y b hj g1 hl2 h2 hb).2.2
     . rw [if_neg hki] at k3
       obtain ⟨o5, m1, rfl⟩ := hother k o4 hki k1
       exact g4 k o5 z hkj m1 (by rwa [AObj.live_wo] at k2) k3
 . intro j y hy hn
   have hj : j ≠ i := by rintro rfl; exact hn (by simp)
   rw [hgetρ, if_neg hj]; exact hy
 . intro j y o2 b h1 hl2 h2 hb hn
   have hj : j ≠ i := by rintro rfl; exact hn true (by simp)
   obtain ⟨k1, k2, _⟩ := hout j o2 y b hj h1 hl2 h2 hb
   refine ⟨hk b k1 k2, o2.wo (· == i), ?_, by rwa [AObj.live_wo]⟩
   rw [hget, if_neg hj, h1]; rfl
theorem St.cut (h : St Z ρ T w) (n : Nat) : St Z (ρ.take n) ((T.take n).map (AObj.wo (n <= ·))) w /\ Kept (n <= ·) ρ (ρ.take n) := by
 have hkept : Kept (fun i => decide (n <= i)) ρ (ρ.take n) := fun j y hj hy => by
  rw [List.getElem?_take_of_lt (by simpa using hj)]; exact hy
 have hget : ∀ j o2, ((T.take n).map (AObj.wo (n <= ·)))[j]? = some o2 -> j < n /\ ∃ o3, T[j]? = some o3 /\ o2 = o3.wo (n <= ·) := by
  intro j o2 h1
  rw [List.getElem?_map, List.getElem?_take] at h1
  split at h1
  . rename_i hj
    cases hTj : T[j]? with
    | none => rw [hTj] at h1; cases h1
    | some o3 => rw [hTj] at h1; cases h1; exact ⟨hj, o3, rfl, rfl⟩
  . cases h1
 have hgetρ : ∀ (j : Nat) (y : BI), (ρ.take n)[j]? = some y -> ρ[j]? = some y := by
  intro j y h2
  rw [List.getElem?_take] at h2
  split at h2
  . exact h2
  . cases h2
 refine ⟨⟨h.of, by simp [h.len], ?_, ?_⟩, hkept⟩
 . intro j o2 y h1 h2
   obtain ⟨hj, o3, g1, rfl⟩ := hget j o2 h1
   exact (h.obj j o3 y g1 (hgetρ j y h2)).wo hkept
 . intro j o2 y b h1 hl2 h2 hb
   obtain ⟨hj, o3, g1, rfl⟩ := hget j o2 h1
   rw [AObj.live_wo] at hl2
   obtain ⟨g3, g4⟩ := h.apart j o3 y b g1 hl2 (hgetρ j y h2) hb
   refine ⟨g3, fun k o4 z hkj k1 k2 k3 => ?_⟩
   obtain ⟨_, o5, m1, rfl⟩ := hget k o4 k1
   exact g4 k o5 z hkj m1 (by rwa [AObj.live_wo] at k2) (hgetρ k z k3)
end
inductive AV.Clean : AV -> Prop
 | p (v : Value) : Clean (.p v)
 | any : Clean .any
 | vp (cs : List AV) (o : Nat) : Clean (.vp cs o)
 | vs (cs : List AV) (n : Nat) : Clean (.vs cs n)
 | ag {cs : List AV} (h : ∀ a ∈ cs, Clean a) : Clean (.ag cs)
 | tu {cs : List AV} (h : ∀ a ∈ cs, Clean a) : Clean (.tu cs)
 | fn {f : FuncId} {cs : List AV} (h : ∀ a ∈ cs, Clean a) : Clean (.fn f cs)
 | ic {t : TypeId} {v : AV} (h : Clean v) : Clean (.ic t v)
mutual
def AV.pub (i : Nat) (cs : List AV) : AV -> AV
 | .ptr j o => if j = i then .vp cs o else .ptr j o
 | .sl j o n => if j = i then .vs (if o = 0 then cs else cs.drop o) n else .sl j o n
 | .mp j => if j = i then .any else .mp j
 | .yl j => if j = i then .any else .yl j
 | .ag l => .ag (AV.pubL i cs l)
 | .tu l => .tu (AV.pubL i cs l)
 | .fn f l => .fn f (AV.pubL i cs l)
 | .ic t v => .ic t (AV.pub i cs v)
 | .p v => .p v
 | .any => .any
 | .vp l o => .vp l o
 | .vs l n => .vs l n
def AV.pubL (i : Nat) (cs : List AV) : List AV -> List AV
 | [] => []
 | a :: r => AV.pub i cs a :: AV.pubL i cs r
end
theorem AV.pubL_eq (i : Nat) (cs : List AV) : ∀ (l : List AV), AV.pubL i cs l = l.map (AV.pub i cs)
 | [] => by rw [AV.pubL]; rfl
 | a :: r => by rw [AV.pubL, AV.pubL_eq i cs r]; rfl
def AObj.pub (i : Nat) (cs : List AV) : AObj -> AObj
 | .cells T l => .cells T (l.map (AV.pub i cs))
 | .buf T sz l => .buf T sz (l.map (AV.pub i cs))
 | .map es => .map (es.map fun e => (e.1, e.2.pub i cs))
 | .raw o => .raw o
 | .rcd o l vs => .rcd o (l.map (AV.pub i cs)) vs
 | .gone => .gone
def AObj.cs : AObj -> Option (List AV)
 | .cells _ cs => some cs
 | .buf _ _ cs => some cs
 | _ => none
section
variable {P : Program} {Z Z' : Heap} {ρ ρ' : List BI} {T : Tbl} {w w' : World} {x : BI} {o : AObj} {i : Nat} {cs : List AV} {vs : List Value} {a : AV} {v : Value}
theorem Rel.clean (h : Rel Z ρ a v) (hc : a.Clean) : Rel Z ρ' a v := by
 induction h with
 | p v => exact .p v
 | any v => exact .any v
 | vp hb hk hr _ => exact .vp hb hk hr
 | vs0 h0 hm => exact .vs0 h0 hm
 | vs hm hb hk hr _ => exact .vs hm hb hk hr
 | ag hl _ ih => cases hc with | ag hc => exact .ag hl fun k h1 h2 => ih k h1 h2 (hc _ (List.getElem_mem _))
 | tu hl _ ih => cases hc with | tu hc => exact .tu hl fun k h1 h2 => ih k h1 h2 (hc _ (List.getElem_mem _))
 | fn hl _ ih => cases hc with | fn hc => exact .fn hl fun k h1 h2 => ih k h1 h2 (hc _ (List.getElem_mem _))
 | ic _ ih => cases hc with | ic hc => exact .ic (ih hc)
 | _ => cases hc
theorem RelL.clean (h : RelL Z ρ cs vs) (hc : ∀ a ∈ cs, a.Clean) : RelL Z ρ' cs vs := ⟨h.1, fun k a v ha hv => (h.2 k a v ha hv).clean (hc a (List.mem_of_getElem? ha))⟩
def Row (Z : Heap) (x : BI) (cs : List AV) : Prop := (x.blk = none /\ cs = []) ∨ ∃ b c T fr vs, x.blk = some b /\ Z b = some (.cells c T fr) /\ (∀ (k : Nat) (v : Value), vs[k]? = some v -> c[k]? = some v) /\ RelL Z [] cs vs
theorem Rel.pub (h : Rel Z ρ a v) (hle : Heap.le Z Z') (hx : ρ[i]? = some x) (hr : Row Z' x cs) : Rel Z' ρ (a.pub i cs) v := by
 induction h with
 | p v => rw [AV.pub]; exact .p v
 | any v => rw [AV.pub]; exact .any v
 | @ptr ρ j off b y h hb =>
   rw [AV.pub]
   split
   . rename_i hj
     subst hj
     rw [h] at hx; cases hx
     rcases hr with ⟨h1, _⟩ | ⟨b', c', T, fr, vs, h1, h2, h3, h4⟩
     . rw [hb] at h1; cases h1
     . rw [hb] at h1; cases h1
       have := Rel.vp (Z := Z') (ρ := ρ) (cs := cs) (off := off) (b := b) (o := 0) (f := fun k => vs.getD k undef) h2 (fun k hk => ?_) (fun k hk => ?_)
       . simpa using this
       . have hk' : k < vs.length := by rw [<- h4.1]; exact hk
         exact h3 _ _ (by simp [hk'])
       . have hk' : k < vs.length := by rw [<- h4.1]; exact hk
         exact h4.2 k _ _ (by simp [hk]) (by simp [hk'])
   . exact .ptr h hb
 | @sl ρ j off n c y ad h ha hc h0 =>
   rw [AV.pub]
   split
   . rename_i hj
     subst hj
     rw [h] at hx; cases hx
     have hcs : (if off = 0 then cs else cs.drop off) = cs.drop off := by split <;> simp_all
     rw [hcs]
     rcases hr with ⟨h1, rfl⟩ | ⟨b', c', T, fr, vs, h1, h2, h3, h4⟩
     . rw [List.drop_nil]; exact .vs0 (.inl rfl) hc
     . by_cases hn : n = 0
       . exact .vs0 (.inr hn) hc
       rw [ha (.inl (by omega)), h1]
       refine Rel.vs (f := fun k => vs.getD (off + k) undef) hc h2 (fun k hk => ?_) (fun k hk => ?_)
       . simp only [List.length_drop] at hk
         have hk' : off + k < vs.length := by rw [<- h4.1]; omega
         exact h3 _ _ (by simp [hk'])
       . simp only [List.length_drop] at hk
         have hk' : off + k < vs.length := by rw [<- h4.1]; omega
         exact h4.2 (off + k) _ _ (by first | (simp; done) | (simp; omega)) (by simp [hk'])
   . exact .sl h ha hc h0
 | vp hb hc hr' _ => rw [AV.pub]; exact .vp (hle.1 _ _ hb) hc fun k hk => (hr' k hk).mono hle (by simp)
 | vs0 h hc => rw [AV.pub]; exact .vs0 h hc
 | vs hm hb hc hr' _ => rw [AV.pub]; exact .vs hm (hle.1 _ _ hb) hc fun k hk => (hr' k hk).mono hle (by simp)
 | ag hl _ ih => rw [AV.pub, AV.pubL_eq]; exact .ag (by simpa using hl) fun k h1 h2 => by simpa using ih k (by simpa using h1) h2 hx
 | tu hl _ ih => rw [AV.pub, AV.pubL_eq]; exact .tu (by simpa using hl) fun k h1 h2 => by simpa using ih k (by simpa using h1) h2 hx
 | fn hl _ ih => rw [AV.pub, AV.pubL_eq]; exact .fn (by simpa using hl) fun k h1 h2 => by simpa using ih k (by simpa using h1) h2 hx
 | ic _ ih => rw [AV.pub]; exact .ic (ih hx)
 | mp h hb => rw [AV.pub]; split <;> first | exact .any _ | exact .mp h hb
 | yl h hb => rw [AV.pub]; split <;> first | exact .any _ | exact .yl h hb
theorem RelL.pub (h : RelL Z ρ cs vs) {ds : List AV} (hle : Heap.le Z Z') (hx : ρ[i]? = some x) (hr : Row Z' x ds) : RelL Z' ρ (cs.map (AV.pub i ds)) vs := by
 refine ⟨by simpa using h.1, fun k y z hy hz => ?_⟩
 rw [List.getElem?_map] at hy
 cases ha : cs[k]? with
 | none => rw [ha] at hy; cases hy
 | some a => rw [ha] at hy; cases hy; exact (h.2 k a z ha hz).pub hle hx hr
theorem ObjRel.pub {y : BI} {ds : List AV} (h : ObjRel Z ρ w y o) (hle : Heap.le Z Z') (hx : ρ[i]? = some x) (hr : Row Z' x ds) : ObjRel Z' ρ w y (o.pub i ds) := by
 cases o with
 | cells T cs => obtain ⟨h0, b, vs, h1, h2, h3⟩ := h; exact ⟨h0, b, vs, h1, h2, h3.pub hle hx hr⟩
 | buf T sz cs =>
   obtain ⟨h0, n, h1, h2, h3⟩ := h
   refine ⟨h0, n, by simpa using h1, h2, ?_⟩
   rcases h3 with ⟨h3, h4, h5⟩ | ⟨b, cur, h3, h4, h5, h6, h7⟩
   . exact .inl ⟨h3, by subst h4; rfl, h5⟩
   . exact .inr ⟨b, cur, h3, h4, h5, h6, h7.pub hle hx hr⟩
 | map es =>
   obtain ⟨b, ms, c, h1, h2, h3, h4, h5⟩ := h
   refine ⟨b, ms, c, h1, h2, ?_, ?_, h5⟩
   . have := h3.pub hle hx hr; simpa [List.map_map, Function.comp_def] using this
   . simpa [List.map_map, Function.comp_def] using h4
 | raw o => exact h
 | rcd o cs vs => obtain ⟨b, h1, h2, h3⟩ := h; exact ⟨b, h1, h2, h3.pub hle hx hr⟩
 | gone => trivial
theorem AObj.live_pub (i : Nat) (cs : List AV) (o : AObj) : (o.pub i cs).live = o.live := by cases o <;> rfl
theorem St.publishG (h : St Z ρ T w) (hT : T[i]? = some o) (hl : o.live = true) (hx : ρ[i]? = some x) (hle : Heap.le Z Z') (hof' : Z'.ofc w) (hrow : Row Z' x cs) (hdom : ∀ b, x.blk ≠ some b -> Z' b = Z b) :
 St Z' ρ ((T.map (AObj.pub i cs)).set i .gone) w /\ Ext Z ρ T w Z' ρ ((T.map (AObj.pub i cs)).set i .gone) w [(i, false)] /\ ∀ a v, Rel Z ρ a v -> Rel Z' ρ (a.pub i cs) v := by
 have hi := (List.getElem?_eq_some_iff.1 hT).1
 have hget : ∀ j, ((T.map (AObj.pub i cs)).set i .gone)[j]? = if j = i then some .gone else T[j]?.map (AObj.pub i cs) := by
  intro j
  by_cases hj : j = i
  . subst hj; simp [hi]
  . rw [if_neg hj, List.getElem?_set_ne (Ne.symm hj), List.getElem?_map]
 have hother : ∀ j o2, ((T.map (AObj.pub i cs)).set i .gone)[j]? = some o2 -> o2.live = true -> j ≠ i /\ ∃ o3, T[j]? = some o3 /\ o2 = o3.pub i cs := by
  intro j o2 h1 hl2
  rw [hget] at h1
  by_cases hj : j = i
  . rw [if_pos hj] at h1; cases h1; cases hl2
  . rw [if_neg hj] at h1
    refine ⟨hj, ?_⟩
    cases hTj : T[j]? with
    | none => rw [hTj] at h1; cases h1
    | some o3 => rw [hTj] at h1; cases h1; exact ⟨o3, rfl, rfl⟩
 refine ⟨⟨hof', by simp [h.len], ?_, ?_⟩, ⟨hle, fun _ _ h _ => h, ?_⟩, fun a v hr => hr.pub hle hx hrow⟩
 . intro j o2 y h1 h2
   by_cases hl2 : o2.live = true
   . obtain ⟨_, o3, g1, rfl⟩ := hother j o2 h1 hl2
     exact (h.obj j o3 y g1 h2).pub hle hx hrow
   . cases o2 <;> first | exact (hl2 rfl).elim | trivial
 . intro j o2 y b h1 hl2 h2 hb
   obtain ⟨hj, o3, g1, rfl⟩ := hother j o2 h1 hl2
   rw [AObj.live_pub] at hl2
   obtain ⟨g3, g4⟩ := h.apart j o3 y b g1 hl2 h2 hb
   refine ⟨by rw [hdom b (g4 i o x (Ne.symm hj) hT hl hx)]; exact g3, fun k o4 z hkj k1 k2 k3 => ?_⟩
   obtain ⟨_, o5, m1, rfl⟩ := hother k o4 k1 k2
   exact g4 k o5 z hkj m1 (by rwa [AObj.live_pub] at k2) k3
 . intro j y o2 b h1 hl2 h2 hb hn
   have hj : j ≠ i := by rintro rfl; exact hn false (by simp)
   refine ⟨rfl, o2.pub i cs, ?_, by rwa [AObj.live_pub]⟩
   rw [hget, if_neg hj, h1]; rfl
theorem St.publish (h : St Z ρ T w) (hT : T[i]? = some o) (hc : o.cs = some cs) (hcl : ∀ a ∈ cs, a.Clean) :
 ∃ Z', Heap.le Z Z' /\ St Z' ρ ((T.map (AObj.pub i cs)).set i .gone) w /\ Ext Z ρ T w Z' ρ ((T.map (AObj.pub i cs)).set i .gone) w [(i, false)] /\ ∀ a v, Rel Z ρ a v -> Rel Z' ρ (a.pub i cs) v := by
 have hi := (List.getElem?_eq_some_iff.1 hT).1
 obtain ⟨x, hx⟩ : ∃ x, ρ[i]? = some x := ⟨ρ[i]'(by rw [h.len]; exact hi), by simp [h.len, hi]⟩
 have hl : o.live = true := by cases o <;> first | rfl | cases hc
 have hor := h.obj i o x hT hx
 obtain ⟨Z', hle, hof', hrow, hdom⟩ : ∃ Z' : Heap, Heap.le Z Z' /\ Z'.ofc w /\ Row Z' x cs /\ ∀ b, x.blk ≠ some b -> Z' b = Z b := by
  have mk : ∀ b c E, x.blk = some b -> w.heap[b]? = some (.cells c E (0, 0)) -> ∃ Z' : Heap, Heap.le Z Z' /\ Z'.ofc w /\ Z' b = some (.cells c E (0, 0)) /\ ∀ b, x.blk ≠ some b -> Z' b = Z b := by
   intro b c E hb hw
   have hnone := (h.apart i o x b hT hl hx hb).1
   refine ⟨⟨fun b' => if b' = b then some (.cells c E (0, 0)) else Z b', Z.os, Z.out, fun b' => if b' = b then none else Z.cut b'⟩, ⟨fun b' ob hb' => ?_, rfl, rfl, fun b' ob hb' => if_neg (by rintro rfl; rw [hnone] at hb'; cases hb')⟩, ⟨fun b' ob hb' => ?_, h.of.2⟩, if_pos rfl, fun b' hb' => if_neg fun e => hb' (by rw [e]; exact hb)⟩
   . show (if b' = b then _ else _) = _
     rw [if_neg (by rintro rfl; rw [hnone] at hb'; cases hb')]; exact hb'
   . replace hb' : (if b' = b then some (Obj.cells c E (0, 0)) else Z b') = some ob := hb'
     by_cases e : b' = b
     . subst e; rw [if_pos rfl] at hb'
       show Held (if b' = b' then none else _) _ _
       rw [if_pos rfl, hw]; exact hb'
     . rw [if_neg e] at hb'
       show Held (if b' = b then none else _) _ _
       rw [if_neg e]; exact h.of.1 _ _ hb'
  cases o with
  | cells E l =>
    cases hc
    obtain ⟨_, b, vs, h1, h2, h3⟩ := hor
    obtain ⟨Z', g1, g2, g3, g4⟩ := mk b _ E h1 h2
    exact ⟨Z', g1, g2, .inr ⟨b, _, E, _, vs, h1, g3, fun k v hk => by simpa using hk, (h3.clean (ρ' := []) hcl).mono g1 (by simp)⟩, g4⟩
  | buf E sz l =>
    cases hc
    obtain ⟨h0, n, h1, h2, ⟨h3, rfl, h5⟩ | ⟨b, cur, h3, h4, h5, h6, h7⟩⟩ := hor
    . exact ⟨Z, Heap.le_refl _, h.of, .inl ⟨h3, rfl⟩, fun _ _ => rfl⟩
    . obtain ⟨Z', g1, g2, g3, g4⟩ := mk b _ E h3 h4
      refine ⟨Z', g1, g2, .inr ⟨b, _, E, _, cur.toList.take (n * sz), h3, g3, fun k v hk => ?_, (h7.clean (ρ' := []) hcl).mono g1 (by simp)⟩, g4⟩
      rw [List.getElem?_take] at hk
      split at hk
      . simpa using hk
      . cases hk
  | _ => cases hc
 exact ⟨Z', hle, h.publishG hT hl hx hle hof' hrow hdom⟩
end
end Go.E
namespace Go.E
def Agr (Z : Heap) (ρ : List BI) (T : Tbl) (w w' : World) : Prop :=
 Z.ofc w' /\ ∀ (i : Nat) (o : AObj) (x : BI) (b : Nat), T[i]? = some o -> o.live = true -> ρ[i]? = some x -> x.blk = some b -> w'.heap[b]? = w.heap[b]?
def isP (a : AV) (K : Value -> Prop) (_ : Tag K := .mk) : Prop := match a with
 | .p v => K v
 | _ => False
def getO {α : Type _} (o : Option α) (K : α -> Prop) (_ : Tag K := .mk) : Prop := match o with
 | some v => K v
 | none => False
def tak (P : Program) (t : TypeId) : Option Bool := if tis (tk P t) then some (tagg (tk P t)) else none
def tff (P : Program) (s : TypeId) (f : Nat) : Option (Nat × TypeId) := match tk P s with
 | .struct fs => fs[f]?.map fun fd => (fd.offset, fd.type)
 | _ => none
def getA (d : Option Bool) (n : Nat) (cs : List AV) (off : Nat) (K : AV -> Prop) (_ : Tag K := .mk) : Prop :=
 match d with
 | some true => (0 < n /\ off + n <= cs.length) /\ K (.ag ((cs.drop off).take n))
 | some false => getO cs[off]? K
 | none => False
def csA (o : Option AObj) (K : List AV -> Prop) (_ : Tag K := .mk) : Prop := match o with
 | some (.cells _ cs) => K cs
 | some (.buf _ _ cs) => K cs
 | _ => False
def loadA (P : Program) (t : TypeId) (a : AV) (T : Tbl) (K : AV -> Prop) (_ : Tag K := .mk) : Prop := match a with
 | .ptr i off => csA T[i]? fun cs => getA (tak P t) (tsz P t) cs off K
 | .vp cs off => getA (tak P t) (tsz P t) cs off K
 | _ => False
def bpA (a : AV) (A B : Prop) (_ : Tag A := .mk) (_ : Tag B := .mk) : Prop := match a with
 | .p v => CondP v A B
 | _ => False
def nilA (a : AV) (K : Prop) (_ : Tag K := .mk) : Prop := match a with
 | .ptr _ _ => K
 | .vp _ _ => K
 | _ => False
def fldA (o : Option Nat) (a : AV) (K : AV -> Prop) (_ : Tag K := .mk) : Prop := match o, a with
 | some k, .ptr i off => K (.ptr i (off + k))
 | some k, .vp cs off => K (.vp cs (off + k))
 | _, _ => False
def ixA (sz : Nat) (a i : AV) (T : Tbl) (K : AV -> Prop) (_ : Tag K := .mk) : Prop := match a, i with
 | .sl j off n, .p (.int _ x) => csA T[j]? fun cs => (0 <= x /\ x < n /\ cs ≠ []) /\ K (.ptr j (off + x.toNat * sz))
 | .vs cs n, .p (.int _ x) => (0 <= x /\ x < n /\ cs ≠ []) /\ K (.vp cs (x.toNat * sz))
 | _, _ => False
def ixaA (sz n : Nat) (a i : AV) (K : AV -> Prop) (_ : Tag K := .mk) : Prop := match a, i with
 | .ptr j off, .p (.int _ x) => (0 <= x /\ x < n) /\ K (.ptr j (off + x.toNat * sz))
 | .vp cs off, .p (.int _ x) => (0 <= x /\ x < n) /\ K (.vp cs (off + x.toNat * sz))
 | _, _ => False
def idxA (P : Program) (d : TypeDesc) (a i : AV) (T : Tbl) (K : AV -> Prop) (_ : Tag K := .mk) : Prop := match d with
 | .slice e => (if tsz P e = 0 then False else ixA (tsz P e) a i T K)
 | .array n e => (if tsz P e = 0 then False else ixaA (tsz P e) n a i K)
 | _ => False
def agA (a : AV) (K : List AV -> Prop) (_ : Tag K := .mk) : Prop := match a with
 | .ag cs => K cs
 | .p (.agg cs) => K (cs.toList.map .p)
 | _ => False
def fdA (P : Program) (t : TypeId) (f : Nat) (a : AV) (K : AV -> Prop) (_ : Tag K := .mk) : Prop := getO (tff P t f) fun p => agA a fun cs => getA (tak P p.2) (tsz P p.2) cs p.1 K
def ieA (P : Program) (d : TypeDesc) (a i : AV) (K : AV -> Prop) (_ : Tag K := .mk) : Prop := match d, i with
 | .array n e, .p (.int _ x) => (0 <= x /\ x < n) /\ agA a fun cs => if tsz P e = 0 then False else getA (tak P e) (tsz P e) cs (x.toNat * tsz P e) K
 | .string, .p (.int _ x) => isP a fun v => match v with
   | .string s => 0 <= x /\ getO s[x.toNat]? fun b => K (.p (.int .u8 b.toNat))
   | _ => False
 | _, _ => False
def exA (a : AV) (i : Nat) (K : AV -> Prop) (_ : Tag K := .mk) : Prop := match a with
 | .tu cs => getO cs[i]? K
 | .p v => extV v i fun v => K (.p v)
 | _ => False
def lnA (d : TypeDesc) (a : AV) (T : Tbl) (K : AV -> Prop) (_ : Tag K := .mk) : Prop := match d, a with
 | .slice _, .p (.slice _ n _) => K (.p (.int .i64 n))
 | .slice _, .sl _ _ n => K (.p (.int .i64 n))
 | .slice _, .vs _ n => K (.p (.int .i64 n))
 | .string, .p (.string s) => K (.p (.int .i64 s.size))
 | .array n _, _ => K (.p (.int .i64 n))
 | .map _ _, .p (.map none) => K (.p (.int .i64 0))
 | .map _ _, .mp i => (match T[i]? with
   | some (.map es) => K (.p (.int .i64 es.length))
   | _ => False)
 | _, _ => False
def pureK (P : Program) (K : AV -> Prop) (s : Sem Value) : Prop := FloatP P s (fun _ => True) fun v => K (.p v)
def nilK (d : TypeDesc) (op : BinOp) (K : AV -> Prop) (_ : Tag K := .mk) : Prop := match d, op with
 | .pointer _, .eql => K (.p (.bool false))
 | .pointer _, .neq => K (.p (.bool true))
 | _, _ => False
def nilM (d : TypeDesc) (op : BinOp) (K : AV -> Prop) (_ : Tag K := .mk) : Prop := match d, op with
 | .map _ _, .eql => K (.p (.bool false))
 | .map _ _, .neq => K (.p (.bool true))
 | _, _ => False
def plains : List AV -> Option (List Value)
 | [] => some []
 | .p v :: r => (plains r).map (v :: ·)
 | _ :: _ => none
theorem plains_map (vs : List Value) : plains (vs.map .p) = some vs := by
 induction vs with
 | nil => rfl
 | cons v vs ih => simp [plains, ih]
theorem plains_map' {α : Type _} (f : α -> Value) (l : List α) : plains (l.map fun x => .p (f x)) = some (l.map f) := by
 have := plains_map (l.map f); simpa [List.map_map, Function.comp_def] using this
theorem plains_spec : ∀ {cs : List AV} {vs : List Value}, plains cs = some vs -> cs = vs.map .p
 | [], vs, h => by cases h; rfl
 | .p v :: r, vs, h => by
   simp only [plains] at h
   cases hr : plains r with
   | none => rw [hr] at h; cases h
   | some us => rw [hr] at h; cases h; simp [plains_spec hr]
 | .any :: _, _, h | .ptr _ _ :: _, _, h | .sl _ _ _ :: _, _, h | .vp _ _ :: _, _, h | .vs _ _ :: _, _, h | .ag _ :: _, _, h | .tu _ :: _, _, h | .fn _ _ :: _, _, h | .ic _ _ :: _, _, h | .mp _ :: _, _, h | .yl _ :: _, _, h => by cases h
def AV.flat : AV -> Option Value
 | .p v => some v
 | .ag cs => (plains cs).map fun vs => .agg vs.toArray
 | _ => none
theorem Rel.flat {Z : Heap} {ρ : List BI} {a : AV} {u v : Value} (h : a.flat = some u) (hr : Rel Z ρ a v) : v = u := by
 cases a <;> simp only [AV.flat] at h <;> try (cases h; done)
 . cases h; exact hr.p_inv
 . rename_i cs
   cases hp : plains cs with
   | none => rw [hp] at h; cases h
   | some us =>
     rw [hp] at h; cases h
     obtain ⟨vs, rfl, hv⟩ := hr.ag_inv
     rw [plains_spec hp] at hv
     rw [hv.ps_inv]
def nilS (d : TypeDesc) (op : BinOp) (cs : List AV) (n : Nat) (K : AV -> Prop) (_ : Tag K := .mk) : Prop := match d, op with
 | .slice _, .eql => K (.p (.bool false)) /\ ((cs = [] ∨ n = 0) -> K (.p (.bool true)))
 | .slice _, .neq => K (.p (.bool true)) /\ ((cs = [] ∨ n = 0) -> K (.p (.bool false)))
 | _, _ => False
def nilI (d : TypeDesc) (op : BinOp) (K : AV -> Prop) (_ : Tag K := .mk) : Prop := match d, op with
 | .interface _, .eql => K (.p (.bool false))
 | .interface _, .neq => K (.p (.bool true))
 | _, _ => False
def binA (P : Program) (op : BinOp) (t : TypeId) (x y : AV) (xo yo : Operand) (K : AV -> Prop) (_ : Tag K := .mk) : Prop :=
 match x, y with
 | .ptr _ _, .p (.pointer none) => nilK (tk P t) op K
 | .vp _ _, .p (.pointer none) => nilK (tk P t) op K
 | .mp _, .p (.map none) => nilM (tk P t) op K
 | .vs cs n, .p (.slice none 0 0) => nilS (tk P t) op cs n K
 | .ic _ _, .p .nilIface => nilI (tk P t) op K
 | .p a, .p b => binV P op t a b xo yo (pureK P K) fun v => K (.p v)
 | .ag xs, y => getO (plains xs) fun as => getO y.flat fun b => pureK P K (do eqGuard op t xo yo (.agg as.toArray) b; binOp op t (.agg as.toArray) b)
 | .p a, .ag ys => getO (plains ys) fun bs => pureK P K (do eqGuard op t xo yo a (.agg bs.toArray); binOp op t a (.agg bs.toArray))
 | _, _ => False
def pcA (sz : Nat) (a : AV) (l h : Nat) (T : Tbl) (K : AV -> Prop) (_ : Tag K := .mk) : Prop := match a with
 | .sl i off n => (l <= h /\ h <= n) /\ K (.sl i (off + l * sz) (h - l))
 | .vs cs n => (l <= h /\ h <= n) /\ K (.vs ((cs.drop (l * sz)).take ((h - l) * sz)) (h - l))
 | .p (.slice none 0 0) => (l = 0 /\ h = 0) /\ K (.p (.slice none 0 0))
 | _ => False
def lenA (a : AV) (K : Nat -> Prop) (_ : Tag K := .mk) : Prop := match a with
 | .sl _ _ n => K n
 | .vs _ n => K n
 | .p (.slice _ n _) => K n
 | _ => False
def bdA (o : Option AV) (dflt : Nat) (K : Nat -> Prop) (_ : Tag K := .mk) : Prop := match o with
 | none => K dflt
 | some (.p (.int _ x)) => 0 <= x /\ K x.toNat
 | _ => False
def celA (o : Option AObj) (K : Prop) (_ : Tag K := .mk) : Prop := match o with
 | some (.cells _ _) => K
 | _ => False
def slcA (P : Program) (d : TypeDesc) (a : AV) (lo hi mx : Option AV) (T : Tbl) (K : AV -> Prop) (_ : Tag K := .mk) : Prop :=
 match d, mx with
 | .slice e, none => (if tsz P e = 0 then False else lenA a fun n => bdA hi n fun h => bdA lo 0 fun l => pcA (tsz P e) a l h T K)
 | .array n e, none => (if tsz P e = 0 then False else (match a with
   | .ptr i off => celA T[i]? (bdA hi n fun h => bdA lo 0 fun l => (l <= h /\ h <= n) /\ K (.sl i (off + l * tsz P e) (h - l)))
   | .vp cs off => bdA hi n fun h => bdA lo 0 fun l => (l <= h /\ h <= n /\ off + n * tsz P e <= cs.length) /\ K (.vs ((cs.drop (off + l * tsz P e)).take ((h - l) * tsz P e)) (h - l))
   | _ => False))
 | .string, none => isP a fun v => (match v with
   | .string s => bdA hi s.size fun h => bdA lo 0 fun l => (l <= h /\ h <= s.size) /\ K (.p (.string (s.extract l h)))
   | _ => False)
 | _, _ => False
def srcA (sz : Nat) (a : AV) (T : Tbl) (K : List AV -> Nat -> Prop) (_ : Tag K := .mk) : Prop := match a with
 | .vs cs n => cs.length = n * sz /\ K cs n
 | .sl j off n => csA T[j]? fun cs => off + n * sz <= cs.length /\ K ((cs.drop off).take (n * sz)) n
 | .p (.slice none 0 0) => K [] 0
 | _ => False
open Classical in
noncomputable def mfind (es : List (Value × AV)) (k : Value) : Option AV := (es.find? fun e => decide (e.1 = k)).map (·.2)
open Classical in
noncomputable def kfind (es : List MapEntry) (k : Value) : Option (Nat × Value) := (es.findIdx? fun e => decide (e.key = k)).bind fun j => es[j]?.map fun e => (j, e.val)
structure KL (P : Program) (k : TypeId) (S : Value -> Prop) : Prop where
 check : ∀ (w : World) (em : Bool) {v : Value}, S v -> (Instr.checkKey em 10000 k v).run P w = .ok () w
 find : ∀ (w : World) {x : Value}, S x -> ∀ es : List MapEntry, (∀ e ∈ es, S e.key) -> (es.map (·.key)).Nodup -> (Instr.findKey k x es).run P w = .ok (kfind es x) w
 stays : ∀ (w : World) {v : Value}, S v -> (Instr.keyThatStays v v).run P w = .ok v w
def mapKO (P : Program) (kt : TypeId) (es : List (Value × AV)) (k : Value) : Prop := ∃ S : Value -> Prop, KL P kt S /\ S k /\ ∀ e ∈ es, S e.1
def lkK (ok : Bool) (o : Option AV) (z : Value) (K : AV -> Prop) (_ : Tag K := .mk) : Prop := match o, ok with
 | some v, true => K (.tu [v, .p (.bool true)])
 | some v, false => K v
 | none, true => K (.tu [.p z, .p (.bool false)])
 | none, false => K (.p z)
def lokC (P : Program) (kt : TypeId) (o : Option AObj) (k : Value) (ok : Bool) (z : Value) (K : AV -> Prop) (_ : Tag K := .mk) : Prop := match o with
 | some (.map es) => mapKO P kt es k /\ lkK ok (mfind es k) z K
 | _ => False
def lokB (P : Program) (kt : TypeId) (a : AV) (k : Value) (ok : Bool) (z : Value) (T : Tbl) (K : AV -> Prop) (_ : Tag K := .mk) : Prop := match a with
 | .mp i => lokC P kt T[i]? k ok z K
 | .p (.map none) => mapKO P kt [] k /\ lkK ok none z K
 | _ => False
def lokA (P : Program) (d : TypeDesc) (a k : AV) (ok : Bool) (T : Tbl) (K : AV -> Prop) (_ : Tag K := .mk) : Prop := match d with
 | .map kt e => getO k.flat fun k => getO (tzr P e) fun z => lokB P kt a k ok z T K
 | _ => False
def bytesA : List AV -> Option (List UInt8)
 | [] => some []
 | .p (.int .u8 n) :: r => (bytesA r).map (UInt8.ofNat n.toNat :: ·)
 | _ => none
def cnvA (P : Program) (d e : TypeDesc) (s t : TypeId) (a : AV) (T : Tbl) (K : AV -> Prop) (_ : Tag K := .mk) : Prop := match d, e with
 | .slice el, .string => tk P el = .int .u8 /\ srcA 1 a T fun cs _ => getO (bytesA cs) fun bs => K (.p (.string ⟨bs.toArray⟩))
 | d, e => isP a fun v => convV d e s t v (pureK P K) fun v => K (.p v)
def ccO (o : Option AObj) (K : Prop) (_ : Tag K := .mk) : Prop := match o with
 | some (.cells _ _) => K
 | some (.buf _ _ _) => K
 | _ => False
def peqA (P : Program) (d : TypeDesc) (op : BinOp) (b : Bool) (K : AV -> Prop) (_ : Tag K := .mk) : Prop := match d, op with
 | .pointer e, .eql => if tsz P e = 0 then False else K (.p (.bool b))
 | .pointer e, .neq => if tsz P e = 0 then False else K (.p (.bool (!b)))
 | _, _ => False
def bin2A (P : Program) (op : BinOp) (t : TypeId) (x y : AV) (xo yo : Operand) (T : Tbl) (K : AV -> Prop) (_ : Tag K := .mk) : Prop := match x, y with
 | .ptr i o, .ptr j o' => ccO T[i]? (ccO T[j]? (peqA P (tk P t) op (decide (i = j /\ o = o')) K))
 | x, y => binA P op t x y xo yo K
def rdA (P : Program) (ρ : Operand -> AV) (o : Op) (ty : TypeId) (T : Tbl) (K : AV -> Prop) (_ : Tag K := .mk) : Prop :=
 match o with
 | .move x => K (ρ x)
 | .assign x => K (ρ x)
 | .pick c a b => bpA (ρ c) (K (ρ a)) (K (ρ b))
 | .load t a => loadA P t (ρ a) T K
 | .nilCheck x => nilA (ρ x) (K (ρ x))
 | .binOp op t x y _ => bin2A P op t (ρ x) (ρ y) x y T K
 | .unOp op _ x => isP (ρ x) fun v => unV op v (pureK P K) fun v => K (.p v)
 | .convert s t x => cnvA P (tk P s) (tk P t) s t (ρ x) T K
 | .lookup t x i ok => lokA P (tk P t) (ρ x) (ρ i) ok T K
 | .fieldAddr s x f => fldA (tfo P s f) (ρ x) K
 | .field t x f => fdA P t f (ρ x) K
 | .indexAddr t x i => idxA P (tk P t) (ρ x) (ρ i) T K
 | .index t x i => ieA P (tk P t) (ρ x) (ρ i) K
 | .slice t x lo hi mx => slcA P (tk P t) (ρ x) (lo.map ρ) (hi.map ρ) (mx.map ρ) T K
 | .extract t i => exA (ρ t) i K
 | .makeFunc f first cap => (match first.size with
   | 0 => (match f with
     | .func g => K (.fn g (cap.toList.map ρ))
     | _ => False)
   | _ => False)
 | .makeInterface t x => mkiV (tk P t) t undef fun _ => K (.ic t (ρ x))
 | .call ⟨.builtin .len, args, ts⟩ => (match args.toList with
   | [x] => if ts.size = 0 then False else lnA (tk P (ts.getD 0 0)) (ρ x) T K
   | _ => False)
 | .call ⟨.builtin .max, args, ts⟩ => (match args.toList with
   | [x, y] => isP (ρ x) fun v => isP (ρ y) fun u => pureK P K (Builtin.max_ ts ty #[v, u])
   | _ => False)
 | .call ⟨.builtin .min, args, ts⟩ => (match args.toList with
   | [x, y] => isP (ρ x) fun v => isP (ρ y) fun u => pureK P K (Builtin.min_ ts ty #[v, u])
   | _ => False)
 | _ => False
section
variable {P : Program} {Z : Heap} {ρ : List BI} {T : Tbl} {w : World} {a b : AV} {u v : Value} {K : AV -> Prop}
def Lft (Z : Heap) (ρ : List BI) (K : AV -> Prop) : Value -> Prop := fun v => ∃ a, Rel Z ρ a v /\ K a
theorem agr_self (h : St Z ρ T w) : Agr Z ρ T w w := ⟨h.of, fun _ _ _ _ _ _ _ _ => rfl⟩
theorem getO_elim {α : Type _} {o : Option α} {K : α -> Prop} (h : getO o K) : ∃ x, o = some x /\ K x := by
 cases o with
 | none => exact h.elim
 | some x => exact ⟨x, rfl, h⟩
theorem St.cells (h : St Z ρ T w) {i : Nat} {o : AObj} {x : BI} {cs : List AV} (hT : T[i]? = some o) (hx : ρ[i]? = some x) (hc : o.cs = some cs) :
 ∃ vs, RelL Z ρ cs vs /\ (cs ≠ [] -> x.blk.isSome = true) /\ ∀ w', Agr Z ρ T w w' -> Rd w' (x.blk.map fun b => ⟨b, 0, none⟩) vs := by
 have ho := h.obj i o x hT hx
 have mk : ∀ (b : Nat) (c : Array Value) (E : TypeId) (vs : List Value), o.live = true -> x.blk = some b -> w.heap[b]? = some (.cells c E (0, 0)) -> (∀ (k : Nat) (v : Value), vs[k]? = some v -> c[k]? = some v) ->
  ∀ w', Agr Z ρ T w w' -> Rd w' (x.blk.map fun b => ⟨b, 0, none⟩) vs := by
  intro b c E vs hl hb hw hv w' ha
  rw [hb]
  refine .inr ⟨⟨b, 0, none⟩, rfl, rfl, fun k v hk => ?_⟩
  rw [add_plain rfl]
  have := ha.2 i o x b hT hl hx hb
  rw [hw] at this
  simpa [World.cell?, this] using hv k v hk
 cases o with
 | cells E l =>
   cases hc
   obtain ⟨_, b, vs, h1, h2, h3⟩ := ho
   exact ⟨vs, h3, fun _ => by simp [h1], mk b _ E vs rfl h1 h2 fun k v hk => by simpa using hk⟩
 | buf E sz l =>
   cases hc
   obtain ⟨h0, n, h1, h2, ⟨h3, rfl, h5⟩ | ⟨b, cur, h3, h4, h5, h6, h7⟩⟩ := ho
   . exact ⟨[], .nil, fun h => (h rfl).elim, fun w' _ => .inl rfl⟩
   . refine ⟨_, h7, fun _ => by simp [h3], mk b _ E _ rfl h3 h4 fun k v hk => ?_⟩
     rw [List.getElem?_take] at hk
     split at hk
     . simpa using hk
     . cases hk
 | _ => cases hc
theorem row_rd {b o : Nat} {cs : List AV} {c : Array Value} {E : TypeId} {fr : Nat × Nat} {f : Nat -> Value} (hb : Z b = some (.cells c E fr)) (hc : ∀ k, k < cs.length -> c[o + k]? = some (f k)) (hr : ∀ k (h : k < cs.length), Rel Z [] (cs[k]) (f k)) :
 ∃ vs, RelL Z ρ cs vs /\ ∀ w', Z.ofc w' -> Rd w' (some ⟨b, o, none⟩) vs := by
 refine ⟨(List.range cs.length).map f, ⟨by simp, fun k x y hx hy => ?_⟩, fun w' hw => .inr ⟨_, rfl, rfl, fun k v hk => ?_⟩⟩
 . obtain ⟨hk, rfl⟩ := List.getElem?_eq_some_iff.1 hx
   simp [hk] at hy
   subst hy
   exact (hr k hk).mono (Heap.le_refl _) (by simp)
 . have hk' : k < cs.length := by have := (List.getElem?_eq_some_iff.1 hk).1; simpa using this
   simp [hk'] at hk
   subst hk
   rw [add_plain rfl]
   obtain ⟨c', e, g⟩ := (hw.1 _ _ hb).cls
   simpa [World.cell?, e] using g _ _ (hc k hk')
theorem tak_true {t : TypeId} (h : tak P t = some true) : tis (tk P t) = true /\ tagg (tk P t) = true := by
 unfold tak at h
 split at h
 . rename_i h1; exact ⟨h1, by simpa using h⟩
 . cases h
theorem tak_false {t : TypeId} (h : tak P t = some false) : tis (tk P t) = true /\ tagg (tk P t) = false := by
 unfold tak at h
 split at h
 . rename_i h1; exact ⟨h1, by simpa using h⟩
 . cases h
theorem getA_run {t : TypeId} {cs : List AV} {vs : List Value} {off : Nat} {ad : Option Addr} {I : World -> Prop} (h : getA (tak P t) (tsz P t) cs off K) (hr : RelL Z ρ cs vs) (hI : ∀ w', I w' -> Rd w' ad vs) :
 FloatP P (Instr.loadAt t (.pointer (sh ad off))) I (Lft Z ρ K) := by
 unfold getA at h
 split at h
 . rename_i h0
   obtain ⟨h1, h2⟩ := tak_true h0
   obtain ⟨⟨h3, h4⟩, hk⟩ := h
   refine ⟨_, fun w' hw => run_loadn (hI w' hw) _ rfl h3 (by rw [<- hr.1]; exact h4) (by rw [h1, h2]; rfl), _, Rel.ag' ((hr.drop off).take _), hk⟩
 . rename_i h0
   obtain ⟨h1, h2⟩ := tak_false h0
   obtain ⟨x, hx, hk⟩ := getO_elim h
   obtain ⟨v, hv, hrv⟩ := hr.get hx
   exact ⟨v, fun w' hw => run_load1 (hI w' hw) hv (by rw [h1, h2]; rfl), x, hrv, hk⟩
 . exact h.elim
theorem loadA_sound {t : TypeId} (hs : St Z ρ T w) (hr : Rel Z ρ a v) (h : loadA P t a T K) : ptrV v fun p => FloatP P (Instr.loadAt t (.pointer p)) (Agr Z ρ T w) (Lft Z ρ K) := by
 cases a <;> try exact h.elim
 . rename_i i off
   cases hr with
   | @ptr _ _ _ b x hx hb =>
   simp only [loadA] at h
   have key : ∀ o cs, T[i]? = some o -> o.cs = some cs -> getA (tak P t) (tsz P t) cs off K -> FloatP P (Instr.loadAt t (.pointer (some ⟨b, off, none⟩))) (Agr Z ρ T w) (Lft Z ρ K) := by
    intro o cs hT hc hg
    obtain ⟨vs, h1, _, h2⟩ := hs.cells hT hx hc
    rw [hb] at h2
    have := getA_run hg h1 h2
    simpa [sh, add_plain] using this
   unfold csA at h
   split at h
   . exact key _ _ (by assumption) rfl h
   . exact key _ _ (by assumption) rfl h
   . exact h.elim
 . cases hr with
   | vp hb hc hr =>
   obtain ⟨vs, h1, h2⟩ := row_rd (ρ := ρ) hb hc hr
   have := getA_run (I := Agr Z ρ T w) h h1 fun w' hw => h2 w' hw.1
   show FloatP P _ _ _
   simpa [sh, add_plain] using this
theorem agA_elim {K : List AV -> Prop} (h : agA a K) (hr : Rel Z ρ a v) : ∃ cs vs, v = .agg vs /\ RelL Z ρ cs vs.toList /\ K cs := by
 unfold agA at h
 split at h
 . obtain ⟨vs, rfl, h1⟩ := hr.ag_inv
   exact ⟨_, _, rfl, by simpa using h1, h⟩
 . have := hr.p_inv
   subst this
   exact ⟨_, _, rfl, .ps _, h⟩
 . exact h.elim
theorem getA_part {t : TypeId} {cs : List AV} {vs : Array Value} {off : Nat} (h : getA (tak P t) (tsz P t) cs off K) (hr : RelL Z ρ cs vs.toList) : ∃ v, (∀ w, (part t vs off).run P w = .ok v w) /\ Lft Z ρ K v := by
 unfold getA at h
 split at h
 . rename_i h0
   obtain ⟨h1, h2⟩ := tak_true h0
   obtain ⟨⟨h3, h4⟩, hk⟩ := h
   obtain ⟨i, hi, hs, _⟩ := info_of_tsz (P := P) (t := t) (by omega)
   refine ⟨.agg (vs.extract off (off + tsz P t)), fun w => ?_, _, ?_, hk⟩
   . simp [part, run_isAgg h1, h2, sizeOf, typeInfo, hi, hs]
   . have := Rel.ag' ((hr.drop off).take (tsz P t))
     have e : (vs.toList.drop off).take (tsz P t) = (vs.extract off (off + tsz P t)).toList := by
      rw [Array.toList_extract]; simp [List.extract]
     rwa [e, Array.toArray_toList] at this
 . rename_i h0
   obtain ⟨h1, h2⟩ := tak_false h0
   obtain ⟨x, hx, hk⟩ := getO_elim h
   obtain ⟨v, hv, hrv⟩ := hr.get hx
   have hv' : vs[off]? = some v := by simpa using hv
   exact ⟨v, fun w => by simp [part, run_isAgg h1, h2, hv'], x, hrv, hk⟩
 . exact h.elim
theorem FloatP.mono {s : Sem Value} {I J : World -> Prop} {K K' : Value -> Prop} (h : FloatP P s I K) (hI : ∀ w, J w -> I w) (hk : ∀ v, K v -> K' v) : FloatP P s J K' := by
 obtain ⟨v, h1, h2⟩ := h
 exact ⟨v, fun w hw => h1 w (hI w hw), hk v h2⟩
theorem pureK_lift {s : Sem Value} (h : pureK P K s) (I : World -> Prop) : FloatP P s I (Lft Z ρ K) := FloatP.mono h (fun _ _ => trivial) fun v hv => ⟨_, .p v, hv⟩
end
end Go.E
namespace Go.E
section
variable {P : Program}
theorem CondP.mono {v : Value} {A B A' B' : Prop} (h : CondP v A B) (ha : A -> A') (hb : B -> B') : CondP v A' B' := ⟨fun e => ha (h.1 e), fun e => hb (h.2.1 e), h.2.2⟩
theorem intV_mono {op : BinOp} {k : IntKind} {x y : Int} {K K' : Value -> Prop} (h : intV op k x y K) (hk : ∀ v, K v -> K' v) : intV op k x y K' := by
 cases op <;> simp only [intV, cmpV, bitV] at h ⊢ <;> first | exact h.elim | exact hk _ h | exact ⟨h.1, hk _ h.2⟩
theorem shiftV_mono {op : BinOp} {k : IntKind} {x y : Int} {K K' : Value -> Prop} (h : shiftV op k x y K) (hk : ∀ v, K v -> K' v) : shiftV op k x y K' := by
 cases op <;> simp only [shiftV] at h ⊢ <;> first | exact h.elim | exact ⟨h.1, hk _ h.2⟩
theorem bolV_mono {d : TypeDesc} {A B : Prop} (h : bolV d A) (hk : A -> B) : bolV d B := by cases d <;> first | exact h.elim | exact hk h
theorem pntV_mono {d : TypeDesc} {A B : Prop} (h : pntV d A) (hk : A -> B) : pntV d B := by cases d <;> first | exact h.elim | exact hk h
theorem binV_mono {op : BinOp} {t : TypeId} {x y : Value} {xo yo : Operand} {F F' : Sem Value -> Prop} {K K' : Value -> Prop} (h : binV P op t x y xo yo F K) (hf : ∀ s, F s -> F' s) (hk : ∀ v, K v -> K' v) : binV P op t x y xo yo F' K' := by
 unfold binV at h ⊢
 split <;> simp only at h <;> first
  | exact shiftV_mono h hk
  | exact ⟨h.1, intV_mono h.2 hk⟩
  | exact bolV_mono h (hk _)
  | exact pntV_mono h (hk _)
  | (split at h <;> first | (exfalso; simp_all; done) | exact hf _ h)
  | exact hf _ h
theorem unV_mono {op : UnOp} {x : Value} {F F' : Sem Value -> Prop} {K K' : Value -> Prop} (h : unV op x F K) (hf : ∀ s, F s -> F' s) (hk : ∀ v, K v -> K' v) : unV op x F' K' := by
 unfold unV at h ⊢
 split <;> simp only at h <;> first | exact hk _ h | (split at h <;> first | (exfalso; simp_all; done) | exact hf _ h) | exact hf _ h
theorem convV_mono {d e : TypeDesc} {s t : TypeId} {x : Value} {F F' : Sem Value -> Prop} {K K' : Value -> Prop} (h : convV d e s t x F K) (hf : ∀ s, F s -> F' s) (hk : ∀ v, K v -> K' v) : convV d e s t x F' K' := by
 unfold convV at h ⊢
 split <;> simp only at h <;> first | exact hk _ h | (split at h <;> first | (exfalso; simp_all; done) | exact hf _ h) | exact hf _ h
theorem mkiV_elim {d : TypeDesc} {t : TypeId} {x : Value} {K : Value -> Prop} {A : Prop} (h : mkiV d t x fun _ => A) (hk : A -> K (.iface t x)) : mkiV d t x K := by cases d <;> first | exact h.elim | exact hk h
theorem mkiV_x {d : TypeDesc} {t : TypeId} {x y : Value} {A : Prop} (h : mkiV d t x fun _ => A) : mkiV d t y fun _ => A := by cases d <;> first | exact h.elim | exact h
variable {Z : Heap} {ρ : List BI} {T : Tbl} {w : World} {K : AV -> Prop} {a b : AV} {u v : Value} {I : World -> Prop}
theorem isP_elim {K : Value -> Prop} (h : isP a K) (hr : Rel Z ρ a v) : K v := by
 cases a <;> first | exact h.elim | (have := hr.p_inv; subst this; exact h)
theorem pureK_mono (s : Sem Value) : pureK P K s -> FloatP P s I (Lft Z ρ K) := fun h => pureK_lift h I
theorem pureK_val : ∀ v, K (.p v) -> Lft Z ρ K v := fun v h => ⟨_, .p v, h⟩
theorem nilK_elim {d : TypeDesc} {op : BinOp} {xo yo : Operand} {t : TypeId} {ad : Addr} (hd : tk P t = d) (h : nilK d op K) : binV P op t (.pointer (some ad)) (.pointer none) xo yo (fun s => FloatP P s I (Lft Z ρ K)) (Lft Z ρ K) := by
 unfold nilK at h
 split at h
 . simp only [binV, hd, pntV]; exact ⟨_, .p _, h⟩
 . simp only [binV, hd, pntV]; exact ⟨_, .p _, h⟩
 . exact h.elim
theorem binV_agg1 {op : BinOp} {t : TypeId} {xs : Array Value} {y : Value} {xo yo : Operand} {F : Sem Value -> Prop} {K : Value -> Prop} (h : F (do eqGuard op t xo yo (.agg xs) y; binOp op t (.agg xs) y)) : binV P op t (.agg xs) y xo yo F K := by
 unfold binV; split <;> first | exact h | (exfalso; simp_all; done)
theorem binV_agg2 {op : BinOp} {t : TypeId} {x : Value} {ys : Array Value} {xo yo : Operand} {F : Sem Value -> Prop} {K : Value -> Prop} (h : F (do eqGuard op t xo yo x (.agg ys); binOp op t x (.agg ys))) : binV P op t x (.agg ys) xo yo F K := by
 unfold binV; split <;> first | exact h | (exfalso; simp_all; done)
theorem binV_map {op : BinOp} {t : TypeId} {b : Nat} {xo yo : Operand} {F : Sem Value -> Prop} {K : Value -> Prop} (h : F (do eqGuard op t xo yo (.map (some b)) (.map none); binOp op t (.map (some b)) (.map none))) : binV P op t (.map (some b)) (.map none) xo yo F K := by
 unfold binV; split <;> first | exact h | (exfalso; simp_all; done)
theorem run_equal_map {t k e : TypeId} (w : World) (b : Nat) (ht : tk P t = .map k e) : (Op.equal t (.map (some b)) (.map none)).run P w = .ok false w := by
 unfold Op.equal
 rw [show Op.maxDepth = 9999 + 1 from rfl, Op.equalIn]
 simp only [Sem.run_bind, tis_of ht rfl]
 rfl
theorem nilM_elim {op : BinOp} {b : Nat} {xo yo : Operand} {t : TypeId} (h : nilM (tk P t) op K) : binV P op t (.map (some b)) (.map none) xo yo (fun s => FloatP P s I (Lft Z ρ K)) (Lft Z ρ K) := by
 refine binV_map ?_
 unfold nilM at h
 split at h
 . rename_i ht
   exact ⟨.bool false, fun w _ => run_guarded (by simp [eqGuard]) (by simp only [binOp, Sem.run_bind, run_equal_map w _ ht]; rfl), _, .p _, h⟩
 . rename_i ht
   exact ⟨.bool true, fun w _ => run_guarded (by simp [eqGuard]) (by simp only [binOp, Sem.run_bind, run_equal_map w _ ht]; rfl), _, .p _, h⟩
 . exact h.elim
theorem binV_slice {op : BinOp} {t : TypeId} {a : Option Addr} {n c : Nat} {xo yo : Operand} {F : Sem Value -> Prop} {K : Value -> Prop} (h : F (do eqGuard op t xo yo (.slice a n c) (.slice none 0 0); binOp op t (.slice a n c) (.slice none 0 0))) : binV P op t (.slice a n c) (.slice none 0 0) xo yo F K := by
 unfold binV; split <;> first | exact h | (exfalso; simp_all; done)
theorem run_equal_slice {t e : TypeId} (w : World) (a : Option Addr) (n c : Nat) (ht : tk P t = .slice e) : (Op.equal t (.slice a n c) (.slice none 0 0)).run P w = .ok a.isNone w := by
 unfold Op.equal
 rw [show Op.maxDepth = 9999 + 1 from rfl, Op.equalIn]
 simp only [Sem.run_bind, tis_of ht rfl]
 cases a <;> rfl
theorem nilS_elim {op : BinOp} {a : Option Addr} {n c : Nat} {cs : List AV} {xo yo : Operand} {t : TypeId} (h : nilS (tk P t) op cs n K) (ha : a = none -> cs = [] ∨ n = 0) : binV P op t (.slice a n c) (.slice none 0 0) xo yo (fun s => FloatP P s I (Lft Z ρ K)) (Lft Z ρ K) := by
 refine binV_slice ?_
 unfold nilS at h
 split at h
 . rename_i ht
   refine ⟨.bool a.isNone, fun w _ => run_guarded (by simp [eqGuard]) (by simp only [binOp, Sem.run_bind, run_equal_slice w _ _ _ ht]; rfl), _, .p _, ?_⟩
   cases a with
   | none => exact h.2 (ha rfl)
   | some a => exact h.1
 . rename_i ht
   refine ⟨.bool !a.isNone, fun w _ => run_guarded (by simp [eqGuard]) (by simp only [binOp, Sem.run_bind, run_equal_slice w _ _ _ ht]; rfl), _, .p _, ?_⟩
   cases a with
   | none => exact h.2 (ha rfl)
   | some a => exact h.1
 . exact h.elim
theorem binV_if {op : BinOp} {t u : TypeId} {x : Value} {xo yo : Operand} {F : Sem Value -> Prop} {K : Value -> Prop} (h : F (do eqGuard op t xo yo (.iface u x) .nilIface; binOp op t (.iface u x) .nilIface)) : binV P op t (.iface u x) .nilIface xo yo F K := by
 unfold binV; split <;> first | exact h | (exfalso; simp_all; done)
theorem run_equal_if {t u : TypeId} {ms : Array (String × TypeId)} (w : World) (x : Value) (ht : tk P t = .interface ms) : (Op.equal t (.iface u x) .nilIface).run P w = .ok false w := by
 unfold Op.equal
 rw [show Op.maxDepth = 9999 + 1 from rfl, Op.equalIn]
 simp only [Sem.run_bind, tis_of ht rfl]
 rfl
theorem nilI_elim {op : BinOp} {u : TypeId} {x : Value} {xo yo : Operand} {t : TypeId} (h : nilI (tk P t) op K) : binV P op t (.iface u x) .nilIface xo yo (fun s => FloatP P s I (Lft Z ρ K)) (Lft Z ρ K) := by
 refine binV_if ?_
 unfold nilI at h
 split at h
 . rename_i ht
   exact ⟨.bool false, fun w _ => run_guarded (by simp [eqGuard]) (by simp only [binOp, Sem.run_bind, run_equal_if w _ ht]; rfl), _, .p _, h⟩
 . rename_i ht
   exact ⟨.bool true, fun w _ => run_guarded (by simp [eqGuard]) (by simp only [binOp, Sem.run_bind, run_equal_if w _ ht]; rfl), _, .p _, h⟩
 . exact h.elim
theorem binA_sound {op : BinOp} {t : TypeId} {xo yo : Operand} (h : binA P op t a b xo yo K) (hx : Rel Z ρ a u) (hy : Rel Z ρ b v) : binV P op t u v xo yo (fun s => FloatP P s I (Lft Z ρ K)) (Lft Z ρ K) := by
 unfold binA at h
 split at h
 . cases hx; have := hy.p_inv; subst this; exact nilK_elim rfl h
 . cases hx; have := hy.p_inv; subst this; exact nilK_elim rfl h
 . cases hx with | mp hx hb => have := hy.p_inv; subst this; exact nilM_elim h
 . have := hy.p_inv; subst this
   cases hx with
   | vs0 h0 hc => exact nilS_elim h fun _ => h0
   | vs hm hb hc hr => exact nilS_elim h fun e => by cases e
 . have := hy.p_inv; subst this
   cases hx with | ic hr => exact nilI_elim h
 . have := hx.p_inv; subst this; have := hy.p_inv; subst this
   exact binV_mono h (fun s => pureK_mono s) pureK_val
 . obtain ⟨as, e1, h⟩ := getO_elim h
   obtain ⟨bs, e2, h⟩ := getO_elim h
   have f1 := hx.flat (u := .agg as.toArray) (by simp [AV.flat, e1])
   have f2 := hy.flat e2
   subst f1; subst f2
   exact binV_agg1 (pureK_mono _ h)
 . obtain ⟨bs, e2, h⟩ := getO_elim h
   have f1 := hx.p_inv
   have f2 := hy.flat (u := .agg bs.toArray) (by simp [AV.flat, e2])
   subst f1; subst f2
   exact binV_agg2 (pureK_mono _ h)
 . exact h.elim
theorem run_equal_pp {t e : TypeId} (w : World) (a b : Addr) (ht : tk P t = .pointer e) (he : tsz P e ≠ 0) : (Op.equal t (.pointer (some a)) (.pointer (some b))).run P w = (sameAddr a b).run P w := by
 obtain ⟨i, hi, hs, _⟩ := info_of_tsz he
 unfold Op.equal
 have hsz : ∀ w, (sizeOf e).run P w = .ok (tsz P e) w := fun w => by simp [sizeOf, typeInfo, hi, hs]
 rw [show Op.maxDepth = 9999 + 1 from rfl, Op.equalIn]
 simp only [Sem.run_bind, tis_of ht rfl, Result.andThen_ok, hsz, ne_eq, he, not_false_eq_true, if_true]
theorem binV_ptr {op : BinOp} {t : TypeId} {a b : Addr} {xo yo : Operand} {F : Sem Value -> Prop} {K : Value -> Prop} (h : F (do eqGuard op t xo yo (.pointer (some a)) (.pointer (some b)); binOp op t (.pointer (some a)) (.pointer (some b)))) : binV P op t (.pointer (some a)) (.pointer (some b)) xo yo F K := by
 unfold binV; split <;> first | exact h | (exfalso; simp_all; done)
theorem bin2A_sound {op : BinOp} {t : TypeId} {xo yo : Operand} (hs : St Z ρ T w) (h : bin2A P op t a b xo yo T K) (hx : Rel Z ρ a u) (hy : Rel Z ρ b v) : binV P op t u v xo yo (fun s => FloatP P s (Agr Z ρ T w) (Lft Z ρ K)) (Lft Z ρ K) := by
 unfold bin2A at h
 split at h
 . rename_i i o j o'
   have hc : ∀ {i : Nat} {K : Prop}, ccO T[i]? K -> (∃ ob, T[i]? = some ob /\ ob.live = true /\ ∃ cs, ob.cs = some cs) /\ K := fun {i K} h => by
    unfold ccO at h
    split at h
    . rename_i g; exact ⟨⟨_, g, rfl, _, rfl⟩, h⟩
    . rename_i g; exact ⟨⟨_, g, rfl, _, rfl⟩, h⟩
    . exact h.elim
   obtain ⟨⟨o1, h1, hl1, cs1, hc1⟩, h⟩ := hc h
   obtain ⟨⟨o2, h2, hl2, cs2, hc2⟩, h⟩ := hc h
   cases hx with
   | @ptr _ _ _ b1 x1 hx1 hb1 =>
   cases hy with
   | @ptr _ _ _ b2 x2 hx2 hb2 =>
   have hobj : ∀ {i : Nat} {ob : AObj} {x : BI} {b : Nat} {cs : List AV}, T[i]? = some ob -> ρ[i]? = some x -> x.blk = some b -> ob.cs = some cs -> ∃ c E, w.heap[b]? = some (.cells c E (0, 0)) := fun {i ob x b cs} h1 h2 h3 h4 => by
    have := hs.obj _ _ _ h1 h2
    cases ob with
    | cells E l => obtain ⟨_, b', vs, g1, g2, _⟩ := this; rw [h3] at g1; cases g1; exact ⟨_, _, g2⟩
    | buf E sz l =>
      obtain ⟨_, n, _, _, ⟨g1, _⟩ | ⟨b', cur, g1, g2, _⟩⟩ := this
      . rw [h3] at g1; cases g1
      . rw [h3] at g1; cases g1; exact ⟨_, _, g2⟩
    | map es => cases h4
    | raw ob => cases h4
    | rcd ob _ _ => cases h4
    | gone => cases h4
   obtain ⟨c1, E1, w1⟩ := hobj h1 hx1 hb1 hc1
   obtain ⟨c2, E2, w2⟩ := hobj h2 hx2 hb2 hc2
   have hrun : ∀ w', Agr Z ρ T w w' -> (sameAddr (⟨b1, o, none⟩ : Addr) ⟨b2, o', none⟩).run P w' = .ok (decide (i = j /\ o = o')) w' := fun w' ha => by
    have k1 := ha.2 _ _ _ _ h1 hl1 hx1 hb1
    have k2 := ha.2 _ _ _ _ h2 hl2 hx2 hb2
    rw [w1] at k1; rw [w2] at k2
    by_cases hij : i = j /\ o = o'
    . obtain ⟨rfl, rfl⟩ := hij
      rw [hx1] at hx2; cases hx2; rw [hb1] at hb2; cases hb2
      rw [run_sameAddr_same]; simp
    . rw [run_sameAddr_other w' (a := (⟨b1, o, none⟩ : Addr)) (b := ⟨b2, o', none⟩) ?_ k1 k2, decide_eq_false hij]
      intro e
      simp only [Addr.mk.injEq, and_true] at e
      refine hij ⟨?_, e.2⟩
      by_cases hne : i = j
      . exact hne
      . have := (hs.apart i o1 x1 b1 h1 hl1 hx1 hb1).2 j o2 x2 (fun e => hne e.symm) h2 hl2 hx2
        rw [hb2] at this
        exact absurd (by rw [e.1]) this
   have heq : ∀ {e : TypeId}, tk P t = .pointer e -> tsz P e ≠ 0 -> ∀ w', Agr Z ρ T w w' -> (Op.equal t (.pointer (some ⟨b1, o, none⟩)) (.pointer (some ⟨b2, o', none⟩))).run P w' = .ok (decide (i = j /\ o = o')) w' := fun ht he w' ha => by
    rw [run_equal_pp w' _ _ ht he, hrun w' ha]
   generalize hd : tk P t = d at h
   unfold peqA at h
   refine binV_ptr ?_
   split at h
   . split at h
     . exact h.elim
     . rename_i hz
       exact ⟨_, fun w' ha => by simp only [eqGuard, binOp, Sem.run_bind, Sem.run_pure, Result.andThen_ok, heq hd hz w' ha, Bool.not_true, Bool.false_eq_true, if_false], _, .p _, h⟩
   . split at h
     . exact h.elim
     . rename_i hz
       exact ⟨_, fun w' ha => by simp only [eqGuard, binOp, Sem.run_bind, Sem.run_pure, Result.andThen_ok, heq hd hz w' ha, Bool.not_true, Bool.false_eq_true, if_false], _, .p _, h⟩
   . exact h.elim
 . exact binA_sound h hx hy
theorem fldA_sound {o : Option Nat} (h : fldA o a K) (hr : Rel Z ρ a v) : fldV o v (Lft Z ρ K) := by
 cases o with
 | none => cases a <;> exact h.elim
 | some k =>
   cases a <;> try exact h.elim
   . cases hr with | ptr hx hb => exact ⟨rfl, _, by simpa [sh, add_plain] using Rel.ptr hx hb, h⟩
   . cases hr with
     | vp hb hc hr =>
       refine ⟨rfl, _, ?_, h⟩
       rename_i off _ _ _ _ _ _
       have := Rel.vp (ρ := ρ) (off := off + k) hb hc hr
       simpa [sh, add_plain, Nat.add_assoc] using this
theorem csA_elim {o : Option AObj} {K : List AV -> Prop} (h : csA o K) : ∃ x cs, o = some x /\ x.cs = some cs /\ K cs := by
 unfold csA at h
 split at h
 . exact ⟨_, _, rfl, rfl, h⟩
 . exact ⟨_, _, rfl, rfl, h⟩
 . exact h.elim
theorem ixA_sound {sz : Nat} {F : Prop} (hz : sz ≠ 0) (hs : St Z ρ T w) (h : ixA sz a b T K) (hx : Rel Z ρ a u) (hy : Rel Z ρ b v) : slV sz u v F (Lft Z ρ K) := by
 unfold ixA at h
 split at h
 . obtain ⟨o, cs, h1, h2, ⟨h3, h4, h5⟩, hk⟩ := csA_elim h
   have := hy.p_inv; subst this
   cases hx with
   | sl hx ha hc h0 =>
     obtain ⟨vs, _, g1, _⟩ := hs.cells h1 hx h2
     rw [ha (.inl (by omega))]
     have g2 := g1 h5
     simp only [slV, if_neg hz]
     obtain ⟨bb, hb⟩ := Option.isSome_iff_exists.1 g2
     refine ⟨⟨h3, h4, by simp [hb]⟩, _, ?_, hk⟩
     rw [hb]
     simpa [sh, add_plain] using Rel.ptr hx hb
 . obtain ⟨⟨h3, h4, h5⟩, hk⟩ := h
   have := hy.p_inv; subst this
   cases hx with
   | vs0 h => exact (h.elim h5 (by omega)).elim
   | vs hm hb hc hr =>
     simp only [slV, if_neg hz]
     refine ⟨⟨h3, h4, rfl⟩, _, ?_, hk⟩
     simpa [sh, add_plain] using Rel.vp (ρ := ρ) hb hc hr
 . exact h.elim
theorem run_indexArr {t e : TypeId} {n : Nat} {ad : Addr} {k : IntKind} {x : Int} (ht : tk P t = .array n e) (hz : tsz P e ≠ 0) (h0 : 0 <= x) (h1 : x < n) (w : World) :
 (Instr.indexAt t (.pointer (some ad)) (.int k x)).run P w = .ok (.pointer (some (ad.add (x.toNat * tsz P e)))) w := by
 obtain ⟨i, hi, hs, _⟩ := info_of_tsz hz
 simp [Instr.indexAt, asIntOf, tis_of ht rfl, Instr.sureAddr, h0, h1, sizeOf, typeInfo, hi, hs]
theorem idxA_sound {t : TypeId} (hs : St Z ρ T w) (h : idxA P (tk P t) a b T K) (hx : Rel Z ρ a u) (hy : Rel Z ρ b v) : idxV P (tk P t) t u v (fun s => FloatP P s I (Lft Z ρ K)) (Lft Z ρ K) := by
 generalize hd : tk P t = d at h
 unfold idxA at h
 split at h
 . split at h
   . exact h.elim
   . rename_i hz; exact ixA_sound hz hs h hx hy
 . split at h
   . exact h.elim
   . rename_i hz
     unfold ixaA at h
     split at h
     . obtain ⟨⟨h1, h2⟩, hk⟩ := h
       have := hy.p_inv; subst this
       cases hx with | ptr hx hb => exact ⟨_, fun w' _ => run_indexArr hd hz h1 h2 w', _, by rw [add_plain rfl]; exact Rel.ptr hx hb, hk⟩
     . obtain ⟨⟨h1, h2⟩, hk⟩ := h
       have := hy.p_inv; subst this
       cases hx with | vp hb hc hr => exact ⟨_, fun w' _ => run_indexArr hd hz h1 h2 w', _, by rw [add_plain rfl, Nat.add_assoc]; exact Rel.vp (ρ := ρ) hb hc hr, hk⟩
     . exact h.elim
 . exact h.elim
theorem fdA_sound {t : TypeId} {f : Nat} (h : fdA P t f a K) (hr : Rel Z ρ a v) : FloatP P (Instr.field t v f) I (Lft Z ρ K) := by
 obtain ⟨⟨off, ty⟩, h1, h⟩ := getO_elim h
 obtain ⟨cs, vs, rfl, h2, hg⟩ := agA_elim h hr
 obtain ⟨x, hx, hk⟩ := getA_part hg h2
 unfold tff at h1
 split at h1
 . rename_i fs hd
   cases hf : fs[f]? with
   | none => rw [hf] at h1; cases h1
   | some fd =>
     rw [hf] at h1
     cases h1
     exact ⟨x, fun w' _ => by simp [Instr.field, tis_of hd rfl, hf, asAgg, hx w'], hk⟩
 . cases h1
theorem ieA_sound {t : TypeId} (h : ieA P (tk P t) a b K) (hx : Rel Z ρ a u) (hy : Rel Z ρ b v) : FloatP P (Instr.index t u v) I (Lft Z ρ K) := by
 generalize hd : tk P t = d at h
 unfold ieA at h
 split at h
 . obtain ⟨⟨h1, h2⟩, h⟩ := h
   have := hy.p_inv; subst this
   obtain ⟨cs, vs, rfl, h3, hg⟩ := agA_elim h hx
   split at hg
   . exact hg.elim
   . rename_i hz
     obtain ⟨i, hi, hs, _⟩ := info_of_tsz hz
     obtain ⟨x, hx, hk⟩ := getA_part hg h3
     exact ⟨x, fun w' _ => by simp [Instr.index, tis_of hd rfl, asIntOf, h1, h2, sizeOf, typeInfo, hi, hs, hx w'], hk⟩
 . have := hy.p_inv; subst this
   have h := isP_elim h hx
   split at h
   . obtain ⟨h1, h⟩ := h
     obtain ⟨x, h2, hk⟩ := getO_elim h
     exact ⟨_, fun w' _ => by simp [Instr.index, tis_of hd rfl, asIntOf, h1, h2], _, .p _, hk⟩
   . exact h.elim
 . exact h.elim
theorem exA_sound {i : Nat} (h : exA a i K) (hr : Rel Z ρ a v) : extV v i (Lft Z ρ K) := by
 unfold exA at h
 split at h
 . obtain ⟨vs, rfl, h1⟩ := hr.tu_inv
   obtain ⟨x, h2, hk⟩ := getO_elim h
   obtain ⟨y, h3, h4⟩ := h1.get h2
   simp only [extV, h3, extO]
   exact ⟨x, h4, hk⟩
 . have := hr.p_inv; subst this
   unfold extV at h ⊢
   split
   . simp only at h
     unfold extO at h ⊢
     split
     . simp_all only []; exact ⟨_, .p _, h⟩
     . simp_all
   . split at h <;> simp_all
 . exact h.elim
theorem run_getObjM {w' : World} {b : Nat} {ms : Array MapEntry} {c : Nat} (h : w'.heap[b]? = some (.map ms c)) : (getObj b).run P w' = .ok (.map ms c) w' := by simp [getObj, Sem.run, h]
theorem lnA_sound {ts : Array TypeId} {ty : TypeId} (hs : St Z ρ T w) (hts : ts.size ≠ 0) (h : lnA (tk P (ts.getD 0 0)) a T K) (hr : Rel Z ρ a v) :
 lenV P (tk P (ts.getD 0 0)) ts [v] ty (fun s => FloatP P s (Agr Z ρ T w) (Lft Z ρ K)) (Lft Z ρ K) := by
 obtain ⟨t, h0⟩ : ∃ t, ts[0]? = some t := ⟨ts[0]'(by omega), by simp⟩
 have h1 : ts.getD 0 0 = t := by simp [h0]
 rw [h1] at h ⊢
 generalize hd : tk P t = d at h
 unfold lnA at h
 split at h
 . have := hr.p_inv; subst this; exact ⟨_, .p _, h⟩
 . cases hr; exact ⟨_, .p _, h⟩
 . cases hr <;> exact ⟨_, .p _, h⟩
 . have := hr.p_inv; subst this; exact ⟨_, .p _, h⟩
 . exact ⟨_, .p _, h⟩
 . have := hr.p_inv; subst this
   exact ⟨_, fun w' _ => by simp [Builtin.len_, h0, tis_of hd rfl]; rfl, _, .p _, h⟩
 . split at h
   . rename_i es hT
     cases hr with
     | mp hx hb =>
       obtain ⟨b', ms, c, g1, g2, g3⟩ := hs.obj _ _ _ hT hx
       rw [hb] at g1; cases g1
       have hl : ms.size = es.length := by have := g3.1.1; simpa using this.symm
       refine ⟨.int .i64 es.length, fun w' ha => ?_, _, .p _, h⟩
       have hw := ha.2 _ _ _ _ hT rfl hx hb
       rw [g2] at hw
       have hg := run_getObjM (P := P) hw
       simp [Builtin.len_, h0, tis_of hd rfl, hg, goInt, hl]
   . exact h.elim
 . exact h.elim
theorem bdA_elim {o : Option AV} {dflt : Nat} {K : Nat -> Prop} {ov : Option Value} (h : bdA o dflt K) (hr : ∀ a, o = some a -> ∃ v, ov = some v /\ Rel Z ρ a v) (hn : o = none -> ov = none) :
 ∃ (k : IntKind) (n : Nat), (ov = some (.int k n) ∨ (ov = none /\ n = dflt)) /\ K n := by
 unfold bdA at h
 split at h
 . exact ⟨.i64, dflt, .inr ⟨hn rfl, rfl⟩, h⟩
 . obtain ⟨v, h1, h2⟩ := hr _ rfl
   have := h2.p_inv; subst this
   exact ⟨_, _, .inl (by rw [h1, Int.toNat_of_nonneg h.1]), h.2⟩
 . exact h.elim
theorem run_sliceArr {t e : TypeId} {n l h : Nat} {ad : Addr} (ht : tk P t = .array n e) (hs : tsz P e ≠ 0) (hl : l <= h) (hh : h <= n) (lo hi : Option Value) (k1 k2 : IntKind)
 (hlo : lo = some (.int k1 l) ∨ (lo = none /\ l = 0)) (hhi : hi = some (.int k2 h) ∨ (hi = none /\ h = n)) (w : World) :
 (Instr.sliceAt t (.pointer (some ad)) lo hi none).run P w = .ok (.slice (some (if n = l then ad else ad.add (l * tsz P e))) (h - l) (n - l)) w := by
 obtain ⟨i, hi', hsz, _⟩ := info_of_tsz hs
 have hb : (Instr.sliceBounds false n n lo hi none).run P w = .ok (l, h, n) w := by
  have g2 : ∀ u, (Instr.sliceBound (.int k2 (h : Int)) n u).run P w = .ok h w := fun u => by simp [Instr.sliceBound, asIntOf, hh]
  have g1 : ∀ u, (Instr.sliceBound (.int k1 (l : Int)) h u).run P w = .ok l w := fun u => by simp [Instr.sliceBound, asIntOf, hl]
  rcases hlo with rfl | ⟨rfl, rfl⟩ <;> rcases hhi with rfl | ⟨rfl, rfl⟩ <;> simp [Instr.sliceBounds, g1, g2]
 simp only [Instr.sliceAt, Sem.run_bind, tis_of ht rfl, Result.andThen_ok, Instr.sureAddr, Sem.run_pure, hb, sizeOf, typeInfo, run_program, hi', hsz]
theorem Rel.vs_of {b o n c : Nat} {cs : List AV} {cc : Array Value} {E : TypeId} {fr : Nat × Nat} {f : Nat -> Value} (hb : Z b = some (.cells cc E fr)) (hc : ∀ k, k < cs.length -> cc[o + k]? = some (f k)) (hr : ∀ k (h : k < cs.length), Rel Z [] (cs[k]) (f k))
 (l m : Nat) (hn : n <= c) : Rel Z ρ (.vs ((cs.drop l).take m) n) (.slice (some ⟨b, o + l, none⟩) n c) := by
 refine Rel.vs (f := fun k => f (l + k)) hn hb (fun k hk => ?_) (fun k hk => ?_)
 . simp only [List.length_take, List.length_drop] at hk
   rw [Nat.add_assoc]; exact hc (l + k) (by omega)
 . simp only [List.length_take, List.length_drop] at hk
   simpa using hr (l + k) (by omega)
theorem pcA_sound {e t : TypeId} {l h : Nat} {k1 k2 : IntKind} {lo hi : Option Value} {n : Nat} (ht : tk P t = .slice e) (hz : tsz P e ≠ 0) (hp : pcA (tsz P e) a l h T K) (hr : Rel Z ρ a v) {b0 : Option Addr} {c0 : Nat} (hlen : v = .slice b0 n c0)
 (hlo : lo = some (.int k1 l) ∨ (lo = none /\ l = 0)) (hhi : hi = some (.int k2 h) ∨ (hi = none /\ h = n)) : FloatP P (Instr.sliceAt t v lo hi none) I (Lft Z ρ K) := by
 have fin : ∀ {a : Option Addr} {m c : Nat}, v = .slice a m c -> l <= h -> h <= c -> ∀ w', (Instr.sliceAt t v lo hi none).run P w' = .ok (.slice (sa a l c (tsz P e)) (h - l) (c - l)) w' := by
  intro a m c hv h1 h2 w'
  have hm : m = n := by rw [hv] at hlen; cases hlen; rfl
  subst hm; subst hv
  exact run_slice ht hz h1 h2 lo hi k1 k2 hlo hhi w'
 unfold pcA at hp
 split at hp
 . rename_i i off m
   obtain ⟨⟨h1, h2⟩, hk⟩ := hp
   cases hr with
   | @sl _ _ _ _ c x ad hx ha hc h0 =>
     refine ⟨_, fun w' _ => fin rfl h1 (by omega) w', _, ?_, hk⟩
     have key : off + l * tsz P e = 0 -> off = 0 /\ l = 0 := fun h => by
      rcases Nat.mul_eq_zero.1 (show l * tsz P e = 0 by omega) with g | g
      . exact ⟨by omega, g⟩
      . exact (hz g).elim
     refine .sl hx (fun h3 => ?_) (by omega) fun h3 h4 => ?_
     . have e : sh (x.blk.map fun b => (⟨b, off, none⟩ : Addr)) (l * tsz P e) = x.blk.map fun b => (⟨b, off + l * tsz P e, none⟩ : Addr) := by
        cases x.blk <;> simp [sh, add_plain]
       rcases h3 with h3 | h3
       . rw [sa, if_neg (by omega), ha (.inl (by omega)), e]
       . obtain ⟨g1, rfl⟩ := key h3
         rw [sa_zero, ha (.inr g1)]
         simp
     . obtain ⟨g1, rfl⟩ := key h3
       rw [Nat.sub_zero]; exact h0 g1 h4
 . obtain ⟨⟨h1, h2⟩, hk⟩ := hp
   cases hr with
   | vs0 h0 hc => exact ⟨_, fun w' _ => fin rfl h1 (by omega) w', _, .vs0 (h0.imp (fun e => by rw [e]; simp) (fun e => by omega)) (by omega), hk⟩
   | @vs _ _ n m b o cc E fr f hm hb hc hr =>
     refine ⟨_, fun w' _ => fin rfl h1 (by omega) w', _, ?_, hk⟩
     unfold sa
     split
     . have : h - l = 0 := by omega
       exact .vs0 (.inr this) (by omega)
     . simpa [sh, add_plain] using Rel.vs_of (ρ := ρ) hb hc hr (l * tsz P e) ((h - l) * tsz P e) (show h - l <= m - l by omega)
 . obtain ⟨⟨rfl, rfl⟩, hk⟩ := hp
   have := hr.p_inv; subst this
   exact ⟨_, fun w' _ => fin rfl (Nat.le_refl _) (Nat.le_refl _) w', _, by simp only [sa_zero]; exact .p _, hk⟩
 . exact hp.elim
theorem lenA_elim {K : Nat -> Prop} (h : lenA a K) (hr : Rel Z ρ a v) : ∃ b n c, v = .slice b n c /\ K n := by
 unfold lenA at h
 split at h
 . cases hr; exact ⟨_, _, _, rfl, h⟩
 . cases hr <;> exact ⟨_, _, _, rfl, h⟩
 . have := hr.p_inv; subst this; exact ⟨_, _, _, rfl, h⟩
 . exact h.elim
theorem slcA_sound {t : TypeId} {lo hi mx : Option AV} {lo' hi' mx' : Option Value} (h : slcA P (tk P t) a lo hi mx T K) (hs : St Z ρ T w) (hr : Rel Z ρ a v)
 (hlo : ∀ a, lo = some a -> ∃ v, lo' = some v /\ Rel Z ρ a v) (hlo0 : lo = none -> lo' = none) (hhi : ∀ a, hi = some a -> ∃ v, hi' = some v /\ Rel Z ρ a v) (hhi0 : hi = none -> hi' = none) (hmx : mx = none -> mx' = none) :
 FloatP P (Instr.sliceAt t v lo' hi' mx') I (Lft Z ρ K) := by
 generalize hd : tk P t = d at h
 unfold slcA at h
 split at h
 . rw [hmx rfl]
   split at h
   . exact h.elim
   . rename_i hz
     obtain ⟨b, n, c, rfl, h⟩ := lenA_elim h hr
     obtain ⟨k2, m, h2, h⟩ := bdA_elim h hhi hhi0
     obtain ⟨k1, l, h1, h⟩ := bdA_elim h hlo hlo0
     exact pcA_sound hd hz h hr rfl h1 h2
 . rw [hmx rfl]
   split at h
   . exact h.elim
   . rename_i hz
     split at h
     . rename_i i off
       unfold celA at h
       split at h
       . rename_i hT
         obtain ⟨k2, m, h2, h⟩ := bdA_elim h hhi hhi0
         obtain ⟨k1, l, h1, h⟩ := bdA_elim h hlo hlo0
         obtain ⟨⟨h3, h4⟩, hk⟩ := h
         cases hr with
         | @ptr _ _ _ _ x hx hb =>
           refine ⟨_, fun w' _ => run_sliceArr hd hz h3 h4 lo' hi' k1 k2 h1 h2 w', _, ?_, hk⟩
           have hg : x.grow = false := (hs.obj _ _ _ hT hx).1
           refine .sl hx (fun hn => ?_) (by omega) fun _ hg' => by rw [hg] at hg'; cases hg'
           rw [hb]
           split
           . rename_i hnl
             subst hnl
             rcases hn with hn | hn
             . omega
             . have : off = 0 := by omega
               rw [hn, this]; simp
           . rw [add_plain rfl]; rfl
       . exact h.elim
     . obtain ⟨k2, m, h2, h⟩ := bdA_elim h hhi hhi0
       obtain ⟨k1, l, h1, h⟩ := bdA_elim h hlo hlo0
       obtain ⟨⟨h3, h4, h5⟩, hk⟩ := h
       cases hr with
       | vp hb hc hr =>
         refine ⟨_, fun w' _ => run_sliceArr hd hz h3 h4 lo' hi' k1 k2 h1 h2 w', _, ?_, hk⟩
         split
         . exact .vs0 (.inr (by omega)) (by omega)
         . rw [add_plain rfl]
           rename_i off _ b o _ _ _ _ _ _
           simp only [Nat.add_assoc]
           exact Rel.vs_of hb hc hr _ _ (by omega)
     . exact h.elim
 . rw [hmx rfl]
   have h := isP_elim h hr
   split at h
   . rename_i s
     obtain ⟨k2, m, h2, h⟩ := bdA_elim h hhi hhi0
     obtain ⟨k1, l, h1, h⟩ := bdA_elim h hlo hlo0
     obtain ⟨⟨h3, h4⟩, hk⟩ := h
     refine ⟨_, fun w' _ => ?_, _, .p _, hk⟩
     have hb : (Instr.sliceBounds false s.size s.size lo' hi' none).run P w' = .ok (l, m, s.size) w' := by
      have g2 : ∀ u, (Instr.sliceBound (.int k2 (m : Int)) s.size u).run P w' = .ok m w' := fun u => by simp [Instr.sliceBound, asIntOf, h4]
      have g1 : ∀ u, (Instr.sliceBound (.int k1 (l : Int)) m u).run P w' = .ok l w' := fun u => by simp [Instr.sliceBound, asIntOf, h3]
      rcases h1 with rfl | ⟨rfl, rfl⟩ <;> rcases h2 with rfl | ⟨rfl, rfl⟩ <;> simp [Instr.sliceBounds, g1, g2]
     simp [Instr.sliceAt, Instr.slice, tis_of hd rfl, hb]
   . exact h.elim
 . exact h.elim
open Classical in
theorem kfind_rel {es : List (Value × AV)} {ms : List MapEntry} {c : Nat} (h : MapRel Z ρ es ms c) (x : Value) :
 (kfind ms x = none /\ mfind es x = none) ∨ ∃ (j : Nat) (e : MapEntry) (a : AV), kfind ms x = some (j, e.val) /\ ms[j]? = some e /\ e.key = x /\ es[j]? = some (x, a) /\ mfind es x = some a /\ Rel Z ρ a e.val := by
 obtain ⟨h1, h2, _, _, h5⟩ := h
 have hlen : es.length = ms.length := by simpa using congrArg List.length h2
 have hk : ∀ (i : Nat) (g1 : i < es.length) (g2 : i < ms.length), (es[i]).1 = (ms[i]).key := fun i g1 g2 => by
  have := congrArg (·[i]?) h2
  simpa [g1, g2] using this
 unfold kfind mfind
 cases hf : ms.findIdx? (fun e => decide (e.key = x)) with
 | none =>
   rw [List.findIdx?_eq_none_iff] at hf
   have : es.find? (fun e => decide (e.1 = x)) = none := List.find?_eq_none.2 fun e he => by
    obtain ⟨i, hi, rfl⟩ := List.getElem_of_mem he
    have := hf (ms[i]'(by omega)) (by simp)
    rw [hk i hi (by omega)]; simpa using this
   exact .inl ⟨rfl, by rw [this]; rfl⟩
 | some j =>
   rw [List.findIdx?_eq_some_iff_getElem] at hf
   obtain ⟨hj, hp, hlt⟩ := hf
   have hje : j < es.length := by omega
   have hx : (es[j]).1 = x := by rw [hk j hje hj]; simpa using hp
   have hfe : es.find? (fun e => decide (e.1 = x)) = some (es[j]) := by
    rw [List.find?_eq_some_iff_getElem]
    refine ⟨by simpa using hx, j, hje, rfl, fun i hi => ?_⟩
    have := hlt i hi
    rw [hk i (by omega) (by omega)]; simpa using this
   refine .inr ⟨j, ms[j], (es[j]).2, by simp [hj], by simp [hj], by simpa using hp, ?_, by rw [hfe]; rfl, h1.2 j _ _ (by simp [hje]) (by simp [hj])⟩
   rw [List.getElem?_eq_getElem hje, <- hx]
theorem und_of {d : TypeDesc} {t : TypeId} (h : tk P t = d) (hd : tis d = true) : P.underlying t = some d := by
 have := underlying_some (P := P) (t := t) (by rw [h]; exact hd)
 rw [this, h]
theorem zero_run {e : TypeId} {z : Value} (hz : tzr P e = some z) (w : World) : (zeroValue e).run P w = .ok z w := by
 unfold tzr at hz
 cases hi : P.info? e with
 | none => rw [hi] at hz; cases hz
 | some i =>
   rw [hi] at hz
   have hz' : i.zero = some z := hz
   simp [zeroValue, typeInfo, hi, hz']
theorem lokA_sound {t : TypeId} {ok : Bool} (hs : St Z ρ T w) (h : lokA P (tk P t) a b ok T K) (hx : Rel Z ρ a u) (hy : Rel Z ρ b v) : FloatP P (Instr.lookup t u v ok) (Agr Z ρ T w) (Lft Z ρ K) := by
 generalize hd : tk P t = d at h
 unfold lokA at h
 split at h
 . rename_i kt e
   obtain ⟨kv, hk, h⟩ := getO_elim h
   obtain ⟨z, hz, h⟩ := getO_elim h
   have := hy.flat hk; subst this
   unfold lokB at h
   split at h
   . rename_i i
     unfold lokC at h
     split at h
     . rename_i es hT
       obtain ⟨⟨S, hS, hk1, hk2⟩, h⟩ := h
       cases hx with
       | @mp _ _ bb x hx hb =>
       obtain ⟨b', ms, c, g1, g2, g3⟩ := hs.obj _ _ _ hT hx
       rw [hb] at g1; cases g1
       have hget : ∀ w', Agr Z ρ T w w' -> (getObj bb).run P w' = .ok (.map ms c) w' := fun w' ha => run_getObjM (by have := ha.2 _ _ _ _ hT rfl hx hb; rw [g2] at this; exact this)
       have hkeys : ∀ e ∈ ms.toList, S e.key := fun e he => by
        have : e.key ∈ ms.toList.map (·.key) := List.mem_map_of_mem he
        rw [<- g3.2.1] at this
        obtain ⟨p, hp, e2⟩ := List.mem_map.1 this
        rw [<- e2]; exact hk2 p hp
       have hrun : ∀ w', Agr Z ρ T w w' -> (Instr.lookup t (.map (some bb)) v ok).run P w' = .ok (match kfind ms.toList v with | some (_, x) => if ok then .tuple #[x, .bool true] else x | none => if ok then .tuple #[z, .bool false] else z) w' := by
        intro w' ha
        have e1 := hget w' ha
        have e2 := fun em => hS.check w' em hk1
        have e3 := hS.find w' hk1 ms.toList hkeys g3.2.2.2.2
        have e4 := zero_run (P := P) hz w'
        simp only [Instr.lookup, Sem.run_bind, tis_of hd rfl, Result.andThen_ok, e1, Sem.run_pure, e2, e3]
        cases kfind ms.toList v with
        | none => simp only [Sem.run_bind, e4, Result.andThen_ok, Sem.run_pure]
        | some p => simp only [Sem.run_bind, Sem.run_pure, Result.andThen_ok]
       rcases kfind_rel g3 v with ⟨e1, e2⟩ | ⟨j, e0, a0, e1, _, _, _, e5, hr⟩
       . rw [e2] at h
         cases ok with
         | true => exact ⟨_, fun w' ha => by rw [hrun w' ha, e1]; rfl, _, .tu' (vs := [z, .bool false]) (.cons (.p _) (.cons (.p _) .nil)), h⟩
         | false => exact ⟨_, fun w' ha => by rw [hrun w' ha, e1]; rfl, _, .p _, h⟩
       . rw [e5] at h
         cases ok with
         | true => exact ⟨_, fun w' ha => by rw [hrun w' ha, e1]; rfl, _, .tu' (vs := [e0.val, .bool true]) (.cons hr (.cons (.p _) .nil)), h⟩
         | false => exact ⟨_, fun w' ha => by rw [hrun w' ha, e1]; rfl, _, hr, h⟩
     . exact h.elim
   . have := hx.p_inv; subst this
     obtain ⟨⟨S, hS, hk1, hk2⟩, h⟩ := h
     have hrun : ∀ w', (Instr.lookup t (.map none) v ok).run P w' = .ok (if ok then .tuple #[z, .bool false] else z) w' := by
      intro w'
      have e2 := fun em => hS.check w' em hk1
      have e3 := hS.find w' hk1 [] (by simp) (by simp)
      have e4 := zero_run (P := P) hz w'
      have e5 : kfind [] v = none := rfl
      simp only [Instr.lookup, Sem.run_bind, tis_of hd rfl, Result.andThen_ok, Sem.run_pure, e2, e3, e4, e5]
     cases ok with
     | true => exact ⟨_, fun w' _ => hrun w', _, .tu' (vs := [z, .bool false]) (.cons (.p _) (.cons (.p _) .nil)), h⟩
     | false => exact ⟨_, fun w' _ => hrun w', _, .p _, h⟩
   . exact h.elim
 . exact h.elim
theorem srcA_elim' {sz : Nat} {K : List AV -> Nat -> Prop} (h : srcA sz a T K) (hs : St Z ρ T w) (hr : Rel Z ρ a v) : ∃ (e : Option Addr) (m d : Nat) (ys : List AV) (us : List Value), v = .slice e m d /\ RelL Z ρ ys us /\ ys.length = m * sz /\ (∀ w', Agr Z ρ T w w' -> Rd w' e us) /\ K ys m := by
 unfold srcA at h
 split at h
 . rename_i cs n
   obtain ⟨h1, h⟩ := h
   cases hr with
   | @vs0 _ _ _ c ad h0 hc =>
     have h2 : cs = [] := by
      rcases h0 with h0 | h0
      . exact h0
      . subst h0; exact List.eq_nil_of_length_eq_zero (by simpa using h1)
     subst h2
     exact ⟨_, _, _, _, [], rfl, .nil, h1, fun _ _ => .inl rfl, h⟩
   | vs hm hb hc hr =>
     obtain ⟨us, h2, h3⟩ := row_rd (ρ := ρ) hb hc hr
     exact ⟨_, _, _, _, us, rfl, h2, h1, fun w' ha => h3 w' ha.1, h⟩
 . rename_i j off n
   obtain ⟨o, cs, h1, h2, h3, h⟩ := csA_elim h
   cases hr with
   | @sl _ _ _ _ c x ad hx ha hc h0 =>
     obtain ⟨vs, g1, g2, g3⟩ := hs.cells h1 hx h2
     refine ⟨_, _, _, _, (vs.drop off).take (n * sz), rfl, (g1.drop off).take _, by simp; omega, fun w' hw' => ?_, h⟩
     by_cases hn : n = 0
     . subst hn; exact .inl (by simp)
     . rw [ha (.inl (by omega))]
       have := ((g3 w' hw').drop off).take (n * sz)
       have e : sh (x.blk.map fun b => (⟨b, 0, none⟩ : Addr)) off = x.blk.map fun b => (⟨b, off, none⟩ : Addr) := by cases x.blk <;> simp [sh, add_plain]
       rwa [e] at this
 . have := hr.p_inv; subst this
   exact ⟨_, _, _, [], [], rfl, .nil, by simp, fun _ _ => .inl rfl, h⟩
 . exact h.elim
theorem bytesA_spec : ∀ {cs : List AV} {bs : List UInt8}, bytesA cs = some bs -> ∃ ns : List Int, cs = ns.map (fun n => .p (.int .u8 n)) /\ bs = ns.map fun n => UInt8.ofNat n.toNat
 | [], bs, h => by cases h; exact ⟨[], rfl, rfl⟩
 | .p (.int .u8 n) :: r, bs, h => by
   simp only [bytesA, Option.map_eq_some_iff] at h
   obtain ⟨l, hl, rfl⟩ := h
   obtain ⟨ns, rfl, rfl⟩ := bytesA_spec hl
   exact ⟨n :: ns, rfl, rfl⟩
theorem push_all : ∀ (ns : List Int) (s : ByteArray), ns.foldl (fun r n => r.push (UInt8.ofNat n.toNat)) s = ⟨(s.data.toList ++ ns.map fun n => UInt8.ofNat n.toNat).toArray⟩
 | [], s => by simp
 | n :: ns, s => by
   rw [List.foldl_cons, push_all ns]
   congr 1
   simp [ByteArray.push]
theorem cnvA_sound {s t : TypeId} (hs : St Z ρ T w) (h : cnvA P (tk P s) (tk P t) s t a T K) (hr : Rel Z ρ a v) : convV (tk P s) (tk P t) s t v (fun s => FloatP P s (Agr Z ρ T w) (Lft Z ρ K)) (Lft Z ρ K) := by
 generalize hd : tk P s = d at h ⊢
 generalize he : tk P t = e at h ⊢
 unfold cnvA at h
 split at h
 . rename_i el
   obtain ⟨hel, h⟩ := h
   obtain ⟨ad, m, c, ys, us, rfl, h1, h2, h3, h⟩ := srcA_elim' h hs hr
   obtain ⟨bs, hb, h⟩ := getO_elim h
   obtain ⟨ns, rfl, rfl⟩ := bytesA_spec hb
   have hus : us = ns.map (Value.int .u8) := by
    have : RelL Z ρ ((ns.map (Value.int .u8)).map .p) us := by simpa [Function.comp_def] using h1
    exact this.ps_inv
   subst hus
   simp only [convV]
   refine ⟨.string ⟨(ns.map fun n => UInt8.ofNat n.toNat).toArray⟩, fun w' hw' => ?_, _, .p _, h⟩
   rw [run_convert_bytes_string w' s t el ad m c (und_of hd rfl) (und_of hel rfl) (und_of he rfl)]
   have hm : ns.length = m := by simpa using h2
   rcases h3 w' hw' with h0 | ⟨p, rfl, hp, hc⟩
   . have : ns = [] := by simpa using h0
     subst this
     have : m = 0 := by simpa using hm.symm
     subst this
     cases ad <;> simp [Conv.bytesToString, loadCells, loadCellsFrom, ByteArray.empty, ByteArray.emptyWithCapacity] <;> rfl
   . have hl := run_loadCells_list (P := P) w' p (ns.map (Value.int .u8)) (fun j v hj => hc j v hj)
     rw [List.length_map, hm] at hl
     rw [run_bytesToString w' p m c ns hl, push_all]
     rfl
 . exact convV_mono (isP_elim h hr) (fun s => pureK_mono s) pureK_val
theorem getO_map {α β : Type _} {o : Option α} {f : α -> β} (a : β) (h : o.map f = some a) : ∃ x, o = some x /\ f x = a := by
 cases o with
 | none => cases h
 | some x => exact ⟨x, rfl, by simpa using h⟩
theorem rdA_sound {evA : Operand -> AV} {evV : Operand -> Value} {o : Op} {ty : TypeId} (hs : St Z ρ T w) (he : ∀ x, Rel Z ρ (evA x) (evV x)) (h : rdA P evA o ty T K) :
 floatV P evV o ty (Agr Z ρ T w) (Lft Z ρ K) := by
 unfold floatV
 unfold rdA at h
 split at h
 . exact ⟨_, he _, h⟩
 . exact ⟨_, he _, h⟩
 . rename_i c a b
   unfold bpA at h
   split at h
   . rename_i v hv
     have := he c
     rw [hv] at this
     have := this.p_inv
     simp only [valV]
     rw [this]
     exact h.mono (fun h => ⟨_, he _, h⟩) (fun h => ⟨_, he _, h⟩)
   . exact h.elim
 . exact loadA_sound hs (he _) h
 . rename_i x
   have hx := he x
   unfold nilA at h
   simp only [valV]
   generalize evV x = vx at hx
   split at h
   . rename_i e; rw [e] at hx h; cases hx with | ptr hx hb => exact ⟨rfl, _, .ptr hx hb, h⟩
   . rename_i e; rw [e] at hx h; cases hx with | vp hb hc hr => exact ⟨rfl, _, .vp hb hc hr, h⟩
   . exact h.elim
 . exact bin2A_sound hs h (he _) (he _)
 . exact unV_mono (isP_elim h (he _)) (fun s => pureK_mono s) pureK_val
 . exact cnvA_sound hs h (he _)
 . exact lokA_sound hs h (he _) (he _)
 . exact fldA_sound h (he _)
 . exact fdA_sound h (he _)
 . exact idxA_sound hs h (he _) (he _)
 . exact ieA_sound h (he _) (he _)
 . rename_i t x lo hi mx
   refine slcA_sound h hs (he _) ?_ ?_ ?_ ?_ ?_
   . intro a ha; obtain ⟨y, rfl, rfl⟩ := getO_map a ha; exact ⟨_, rfl, he _⟩
   . intro e; cases lo <;> first | rfl | cases e
   . intro a ha; obtain ⟨y, rfl, rfl⟩ := getO_map a ha; exact ⟨_, rfl, he _⟩
   . intro e; cases hi <;> first | rfl | cases e
   . intro e; cases mx <;> first | rfl | cases e
 . exact exA_sound h (he _)
 . rename_i f first cap
   split at h
   . rename_i h0
     split at h
     . refine ⟨_, ?_, h⟩
       have e1 : first.map evV = #[] := by rw [<- Array.size_eq_zero_iff] at *; simpa using h0
       have e2 : cap.map evV = (cap.toList.map evV).toArray := by rw [<- Array.toList_map]
       rw [e1, e2]
       refine .fn (by simp) fun k h1 h2 => ?_
       simpa using he _
     . exact h.elim
   . exact h.elim
 . exact mkiV_elim (mkiV_x h) fun h => ⟨_, .ic (he _), h⟩
 . rename_i args ts
   split at h
   . rename_i x hx
     split at h
     . exact h.elim
     . rename_i hts
       simp only [valV, builtinV, if_neg hts, hx, List.map_cons, List.map_nil]
       exact lnA_sound hs hts h (he _)
   . exact h.elim
 . rename_i args ts
   split at h
   . rename_i x y hx
     simp only [valV, builtinV, hx, List.map_cons, List.map_nil]
     exact pureK_mono _ (isP_elim (isP_elim h (he _)) (he _))
   . exact h.elim
 . rename_i args ts
   split at h
   . rename_i x y hx
     simp only [valV, builtinV, hx, List.map_cons, List.map_nil]
     exact pureK_mono _ (isP_elim (isP_elim h (he _)) (he _))
   . exact h.elim
 . exact h.elim
theorem lenV_mono {d : TypeDesc} {ts : Array TypeId} {xs : List Value} {ty : TypeId} {F F' : Sem Value -> Prop} {K K' : Value -> Prop} (h : lenV P d ts xs ty F K) (hf : ∀ s, F s -> F' s) (hk : ∀ v, K v -> K' v) : lenV P d ts xs ty F' K' := by
 unfold lenV at h ⊢
 split <;> simp only at h <;> first | exact hk _ h | (split at h <;> first | (exfalso; simp_all; done) | exact hf _ h) | exact hf _ h
theorem ptrV_mono {v : Value} {K K' : Option Addr -> Prop} (h : ptrV v K) (hk : ∀ p, K p -> K' p) : ptrV v K' := by cases v <;> first | exact h.elim | exact hk _ h
theorem slV_mono {sz : Nat} {x i : Value} {F F' : Prop} {K K' : Value -> Prop} (h : slV sz x i F K) (hf : F -> F') (hk : ∀ v, K v -> K' v) : slV sz x i F' K' := by
 cases x <;> try exact hf h
 cases i <;> try exact hf h
 simp only [slV] at h ⊢
 split at h
 . exact h.elim
 . rename_i hz; rw [if_neg hz]; exact ⟨h.1, hk _ h.2⟩
theorem extV_mono {x : Value} {i : Nat} {K K' : Value -> Prop} (h : extV x i K) (hk : ∀ v, K v -> K' v) : extV x i K' := by
 unfold extV at h ⊢
 split
 . simp only at h; unfold extO at h ⊢; split <;> simp_all
 . split at h <;> simp_all
theorem valV_mono {evV : Operand -> Value} {o : Op} {ty : TypeId} {G G' : Value -> List Value -> Prop} {F F' : Sem Value -> Prop} {K K' : Value -> Prop} (h : valV P evV o ty G F K) (hg : ∀ f a, G f a -> G' f a) (hf : ∀ s, F s -> F' s) (hk : ∀ v, K v -> K' v) : valV P evV o ty G' F' K' := by
 cases o <;> simp only [valV] at h ⊢ <;> first
  | exact hk _ h
  | exact hf _ h
  | exact CondP.mono h (hk _) (hk _)
  | exact ptrV_mono h fun p hp => hf _ hp
  | exact ptrV_mono h fun p hp => ⟨hp.1, hk _ hp.2⟩
  | exact binV_mono h hf hk
  | exact unV_mono h hf hk
  | exact convV_mono h hf hk
  | exact extV_mono h hk
  | skip
 case fieldAddr s x f =>
  refine ptrV_mono h fun p hp => ?_
  cases ho : tfo P s f with
  | none => rw [ho] at hp; exact hp.elim
  | some off => rw [ho] at hp; exact ⟨hp.1, hk _ hp.2⟩
 case indexAddr t x i =>
  cases hd : tk P t <;> rw [hd] at h <;> first | exact hf _ h | exact slV_mono h (hf _) hk
 case makeInterface t x => cases hd : tk P t <;> rw [hd] at h <;> first | exact h.elim | exact hk _ h
 case call c =>
  obtain ⟨callee, args, ts⟩ := c
  cases callee with
  | builtin b =>
    cases b <;> simp only [builtinV] at h ⊢ <;> first
     | exact h.elim
     | exact hf _ h
     | (split
        . simp_all
        . rename_i hts; rw [if_neg hts] at h; exact lenV_mono h hf hk)
  | value f => exact hg _ _ h
  | invoke r m => exact h.elim
 all_goals exact h.elim
end
end Go.E
