/-
  Part 2 of the proof: no statement of its own. No condition but those in each theorem.
-/
import Derived.Test.YtmcbdlefakjpoaaDoorMa1
import Derived.LaidEql
import Derived.Lib.ConvBytes
import Derived.Sort.LoopGhostIn
set_option linter.unusedSimpArgs false
set_option linter.unusedVariables false
set_option linter.unusedSectionVars false
namespace Go.E

/-- worlds that agree on what lasts and on the objects of a table -/
def Agr (Γ : Heap) (ρ : List BI) (T : Tbl) (w w' : World) : Prop :=
  Γ.of w' ∧ ∀ (i : Nat) (o : AObj) (x : BI) (b : Nat), T[i]? = some o → o.live = true → ρ[i]? = some x → x.blk = some b → w'.heap[b]? = w.heap[b]?

/-! ### What is asked of an operation -/
def isP (a : AV) (K : Value → Prop) (_ : Tag K := .mk) : Prop := match a with
  | .p v => K v
  | _ => False
def getO {α : Type _} (o : Option α) (K : α → Prop) (_ : Tag K := .mk) : Prop := match o with
  | some v => K v
  | none => False
/-- of one cell; an aggregate -/
def tak (P : Program) (t : TypeId) : Option Bool := if tis (tk P t) then some (tagg (tk P t)) else none
/-- a field's offset and type -/
def tff (P : Program) (s : TypeId) (f : Nat) : Option (Nat × TypeId) := match tk P s with
  | .struct fs => fs[f]?.map fun fd => (fd.offset, fd.type)
  | _ => none
def getA (d : Option Bool) (n : Nat) (cs : List AV) (off : Nat) (K : AV → Prop) (_ : Tag K := .mk) : Prop :=
  match d with
  | some true => (0 < n ∧ off + n ≤ cs.length) ∧ K (.ag ((cs.drop off).take n))
  | some false => getO cs[off]? K
  | none => False
def csA (o : Option AObj) (K : List AV → Prop) (_ : Tag K := .mk) : Prop := match o with
  | some (.cells _ cs) => K cs
  | some (.buf _ _ cs) => K cs
  | _ => False
def loadA (P : Program) (t : TypeId) (a : AV) (T : Tbl) (K : AV → Prop) (_ : Tag K := .mk) : Prop := match a with
  | .ptr i off => csA T[i]? fun cs => getA (tak P t) (tsz P t) cs off K
  | .vp cs off => getA (tak P t) (tsz P t) cs off K
  | _ => False
def bpA (a : AV) (A B : Prop) (_ : Tag A := .mk) (_ : Tag B := .mk) : Prop := match a with
  | .p v => CondP v A B
  | _ => False
def nilA (a : AV) (K : Prop) (_ : Tag K := .mk) : Prop := match a with
  | .ptr _ _ => K
  | .vp _ _ => K
  | _ => False
def fldA (o : Option Nat) (a : AV) (K : AV → Prop) (_ : Tag K := .mk) : Prop := match o, a with
  | some k, .ptr i off => K (.ptr i (off + k))
  | some k, .vp cs off => K (.vp cs (off + k))
  | _, _ => False
def ixA (sz : Nat) (a i : AV) (T : Tbl) (K : AV → Prop) (_ : Tag K := .mk) : Prop := match a, i with
  | .sl j off n, .p (.int _ x) => csA T[j]? fun cs => (0 ≤ x ∧ x < n ∧ cs ≠ []) ∧ K (.ptr j (off + x.toNat * sz))
  | .vs cs n, .p (.int _ x) => (0 ≤ x ∧ x < n ∧ cs ≠ []) ∧ K (.vp cs (x.toNat * sz))
  | _, _ => False
def ixaA (sz n : Nat) (a i : AV) (K : AV → Prop) (_ : Tag K := .mk) : Prop := match a, i with
  | .ptr j off, .p (.int _ x) => (0 ≤ x ∧ x < n) ∧ K (.ptr j (off + x.toNat * sz))
  | .vp cs off, .p (.int _ x) => (0 ≤ x ∧ x < n) ∧ K (.vp cs (off + x.toNat * sz))
  | _, _ => False
def idxA (P : Program) (d : TypeDesc) (a i : AV) (T : Tbl) (K : AV → Prop) (_ : Tag K := .mk) : Prop := match d with
  | .slice e => (if tsz P e = 0 then False else ixA (tsz P e) a i T K)
  | .array n e => (if tsz P e = 0 then False else ixaA (tsz P e) n a i K)
  | _ => False
/-- a field's, an element's part of an aggregate -/
def agA (a : AV) (K : List AV → Prop) (_ : Tag K := .mk) : Prop := match a with
  | .ag cs => K cs
  | .p (.agg cs) => K (cs.toList.map .p)
  | _ => False
def fdA (P : Program) (t : TypeId) (f : Nat) (a : AV) (K : AV → Prop) (_ : Tag K := .mk) : Prop := getO (tff P t f) fun p => agA a fun cs => getA (tak P p.2) (tsz P p.2) cs p.1 K
def ieA (P : Program) (d : TypeDesc) (a i : AV) (K : AV → Prop) (_ : Tag K := .mk) : Prop := match d, i with
  | .array n e, .p (.int _ x) => (0 ≤ x ∧ x < n) ∧ agA a fun cs => if tsz P e = 0 then False else getA (tak P e) (tsz P e) cs (x.toNat * tsz P e) K
  | .string, .p (.int _ x) => isP a fun v => match v with
    | .string s => 0 ≤ x ∧ getO s[x.toNat]? fun b => K (.p (.int .u8 b.toNat))
    | _ => False
  | _, _ => False
def exA (a : AV) (i : Nat) (K : AV → Prop) (_ : Tag K := .mk) : Prop := match a with
  | .tu cs => getO cs[i]? K
  | .p v => extV v i fun v => K (.p v)
  | _ => False
def lnA (d : TypeDesc) (a : AV) (T : Tbl) (K : AV → Prop) (_ : Tag K := .mk) : Prop := match d, a with
  | .slice _, .p (.slice _ n _) => K (.p (.int .i64 n))
  | .slice _, .sl _ _ n => K (.p (.int .i64 n))
  | .slice _, .vs _ n => K (.p (.int .i64 n))
  | .string, .p (.string s) => K (.p (.int .i64 s.size))
  | .array n _, _ => K (.p (.int .i64 n))
  | .map _ _, .p (.map none) => K (.p (.int .i64 0))
  | .map _ _, .mp i => (match T[i]? with
    | some (.map es) => K (.p (.int .i64 es.length))
    | _ => False)
  | _, _ => False
/-- two values, both plain -/
def pureK (P : Program) (K : AV → Prop) (s : Sem Value) : Prop := FloatP P s (fun _ => True) fun v => K (.p v)
def nilK (d : TypeDesc) (op : BinOp) (K : AV → Prop) (_ : Tag K := .mk) : Prop := match d, op with
  | .pointer _, .eql => K (.p (.bool false))
  | .pointer _, .neq => K (.p (.bool true))
  | _, _ => False
def nilM (d : TypeDesc) (op : BinOp) (K : AV → Prop) (_ : Tag K := .mk) : Prop := match d, op with
  | .map _ _, .eql => K (.p (.bool false))
  | .map _ _, .neq => K (.p (.bool true))
  | _, _ => False
/-- the values of plain ones -/
def plains : List AV → Option (List Value)
  | [] => some []
  | .p v :: r => (plains r).map (v :: ·)
  | _ :: _ => none
theorem plains_map (vs : List Value) : plains (vs.map .p) = some vs := by
  induction vs with
  | nil => rfl
  | cons v vs ih => simp [plains, ih]
theorem plains_map' {α : Type _} (f : α → Value) (l : List α) : plains (l.map fun x => .p (f x)) = some (l.map f) := by
  have := plains_map (l.map f); simpa [List.map_map, Function.comp_def] using this
theorem plains_spec : ∀ {cs : List AV} {vs : List Value}, plains cs = some vs → cs = vs.map .p
  | [], vs, h => by cases h; rfl
  | .p v :: r, vs, h => by
    simp only [plains] at h
    cases hr : plains r with
    | none => rw [hr] at h; cases h
    | some us => rw [hr] at h; cases h; simp [plains_spec hr]
  | .any :: _, _, h | .ptr _ _ :: _, _, h | .sl _ _ _ :: _, _, h | .vp _ _ :: _, _, h | .vs _ _ :: _, _, h | .ag _ :: _, _, h | .tu _ :: _, _, h | .fn _ _ :: _, _, h | .ic _ _ :: _, _, h | .mp _ :: _, _, h | .yl _ :: _, _, h => by cases h
/-- a value that is an aggregate of plain cells -/
def AV.flat : AV → Option Value
  | .p v => some v
  | .ag cs => (plains cs).map fun vs => .agg vs.toArray
  | _ => none
theorem Rel.flat {Γ : Heap} {ρ : List BI} {a : AV} {u v : Value} (h : a.flat = some u) (hr : Rel Γ ρ a v) : v = u := by
  cases a <;> simp only [AV.flat] at h <;> try (cases h; done)
  · cases h; exact hr.p_inv
  · rename_i cs
    cases hp : plains cs with
    | none => rw [hp] at h; cases h
    | some us =>
      rw [hp] at h; cases h
      obtain ⟨vs, rfl, hv⟩ := hr.ag_inv
      rw [plains_spec hp] at hv
      rw [hv.ps_inv]
def binA (P : Program) (op : BinOp) (t : TypeId) (x y : AV) (xo yo : Operand) (K : AV → Prop) (_ : Tag K := .mk) : Prop :=
  match x, y with
  | .ptr _ _, .p (.pointer none) => nilK (tk P t) op K
  | .vp _ _, .p (.pointer none) => nilK (tk P t) op K
  | .mp _, .p (.map none) => nilM (tk P t) op K
  | .p a, .p b => binV P op t a b xo yo (pureK P K) fun v => K (.p v)
  | .ag xs, y => getO (plains xs) fun as => getO y.flat fun b => pureK P K (do eqGuard op t xo yo (.agg as.toArray) b; binOp op t (.agg as.toArray) b)
  | .p a, .ag ys => getO (plains ys) fun bs => pureK P K (do eqGuard op t xo yo a (.agg bs.toArray); binOp op t a (.agg bs.toArray))
  | _, _ => False
/-- a slice's piece, l to h, of elements of sz cells -/
def pcA (sz : Nat) (a : AV) (l h : Nat) (T : Tbl) (K : AV → Prop) (_ : Tag K := .mk) : Prop := match a with
  | .sl i off n => (l ≤ h ∧ h ≤ n) ∧ K (.sl i (off + l * sz) (h - l))
  | .vs cs n => (l ≤ h ∧ h ≤ n) ∧ K (.vs ((cs.drop (l * sz)).take ((h - l) * sz)) (h - l))
  | .p (.slice none 0 0) => (l = 0 ∧ h = 0) ∧ K (.p (.slice none 0 0))
  | _ => False
def lenA (a : AV) (K : Nat → Prop) (_ : Tag K := .mk) : Prop := match a with
  | .sl _ _ n => K n
  | .vs _ n => K n
  | .p (.slice _ n _) => K n
  | _ => False
/-- a bound of a slicing -/
def bdA (o : Option AV) (dflt : Nat) (K : Nat → Prop) (_ : Tag K := .mk) : Prop := match o with
  | none => K dflt
  | some (.p (.int _ x)) => 0 ≤ x ∧ K x.toNat
  | _ => False
/-- an object that does not grow -/
def celA (o : Option AObj) (K : Prop) (_ : Tag K := .mk) : Prop := match o with
  | some (.cells _ _) => K
  | _ => False
def slcA (P : Program) (d : TypeDesc) (a : AV) (lo hi mx : Option AV) (T : Tbl) (K : AV → Prop) (_ : Tag K := .mk) : Prop :=
  match d, mx with
  | .slice e, none => (if tsz P e = 0 then False else lenA a fun n => bdA hi n fun h => bdA lo 0 fun l => pcA (tsz P e) a l h T K)
  | .array n e, none => (if tsz P e = 0 then False else (match a with
    | .ptr i off => celA T[i]? (bdA hi n fun h => bdA lo 0 fun l => (l ≤ h ∧ h ≤ n) ∧ K (.sl i (off + l * tsz P e) (h - l)))
    | .vp cs off => bdA hi n fun h => bdA lo 0 fun l => (l ≤ h ∧ h ≤ n ∧ off + n * tsz P e ≤ cs.length) ∧ K (.vs ((cs.drop (off + l * tsz P e)).take ((h - l) * tsz P e)) (h - l))
    | _ => False))
  | .string, none => isP a fun v => (match v with
    | .string s => bdA hi s.size fun h => bdA lo 0 fun l => (l ≤ h ∧ h ≤ s.size) ∧ K (.p (.string (s.extract l h)))
    | _ => False)
  | _, _ => False

/-- the cells of a slice that is read -/
def srcA (sz : Nat) (a : AV) (T : Tbl) (K : List AV → Nat → Prop) (_ : Tag K := .mk) : Prop := match a with
  | .vs cs n => cs.length = n * sz ∧ K cs n
  | .sl j off n => csA T[j]? fun cs => off + n * sz ≤ cs.length ∧ K ((cs.drop off).take (n * sz)) n
  | .p (.slice none 0 0) => K [] 0
  | _ => False

/-! ### Maps -/
open Classical in
noncomputable def mfind (es : List (Value × AV)) (k : Value) : Option AV := (es.find? fun e => decide (e.1 = k)).map (·.2)
open Classical in
noncomputable def kfind (es : List MapEntry) (k : Value) : Option (Nat × Value) := (es.findIdx? fun e => decide (e.key = k)).bind fun j => es[j]?.map fun e => (j, e.val)
/-- what the keys of a map obey -/
structure KL (P : Program) (k : TypeId) (S : Value → Prop) : Prop where
  check : ∀ (w : World) (em : Bool) {v : Value}, S v → (Instr.checkKey em 10000 k v).run P w = .ok () w
  find : ∀ (w : World) {x : Value}, S x → ∀ es : List MapEntry, (∀ e ∈ es, S e.key) → (es.map (·.key)).Nodup → (Instr.findKey k x es).run P w = .ok (kfind es x) w
  stays : ∀ (w : World) {v : Value}, S v → (Instr.keyThatStays v v).run P w = .ok v w
def mapKO (P : Program) (kt : TypeId) (es : List (Value × AV)) (k : Value) : Prop := ∃ S : Value → Prop, KL P kt S ∧ S k ∧ ∀ e ∈ es, S e.1
def lkK (ok : Bool) (o : Option AV) (z : Value) (K : AV → Prop) (_ : Tag K := .mk) : Prop := match o, ok with
  | some v, true => K (.tu [v, .p (.bool true)])
  | some v, false => K v
  | none, true => K (.tu [.p z, .p (.bool false)])
  | none, false => K (.p z)
def lokC (P : Program) (kt : TypeId) (o : Option AObj) (k : Value) (ok : Bool) (z : Value) (K : AV → Prop) (_ : Tag K := .mk) : Prop := match o with
  | some (.map es) => mapKO P kt es k ∧ lkK ok (mfind es k) z K
  | _ => False
def lokB (P : Program) (kt : TypeId) (a : AV) (k : Value) (ok : Bool) (z : Value) (T : Tbl) (K : AV → Prop) (_ : Tag K := .mk) : Prop := match a with
  | .mp i => lokC P kt T[i]? k ok z K
  | .p (.map none) => mapKO P kt [] k ∧ lkK ok none z K
  | _ => False
def lokA (P : Program) (d : TypeDesc) (a k : AV) (ok : Bool) (T : Tbl) (K : AV → Prop) (_ : Tag K := .mk) : Prop := match d with
  | .map kt e => getO k.flat fun k => getO (tzr P e) fun z => lokB P kt a k ok z T K
  | _ => False
/-- the bytes of plain cells -/
def bytesA : List AV → Option (List UInt8)
  | [] => some []
  | .p (.int .u8 n) :: r => (bytesA r).map (UInt8.ofNat n.toNat :: ·)
  | _ => none
/-- a conversion: between numbers and strings; of bytes to a string -/
def cnvA (P : Program) (d e : TypeDesc) (s t : TypeId) (a : AV) (T : Tbl) (K : AV → Prop) (_ : Tag K := .mk) : Prop := match d, e with
  | .slice el, .string => tk P el = .int .u8 ∧ srcA 1 a T fun cs _ => getO (bytesA cs) fun bs => K (.p (.string ⟨bs.toArray⟩))
  | d, e => isP a fun v => convV d e s t v (pureK P K) fun v => K (.p v)

/-- an object of cells -/
def ccO (o : Option AObj) (K : Prop) (_ : Tag K := .mk) : Prop := match o with
  | some (.cells _ _) => K
  | some (.buf _ _ _) => K
  | _ => False
def peqA (P : Program) (d : TypeDesc) (op : BinOp) (b : Bool) (K : AV → Prop) (_ : Tag K := .mk) : Prop := match d, op with
  | .pointer e, .eql => if tsz P e = 0 then False else K (.p (.bool b))
  | .pointer e, .neq => if tsz P e = 0 then False else K (.p (.bool (!b)))
  | _, _ => False
/-- two values; pointers among them -/
def bin2A (P : Program) (op : BinOp) (t : TypeId) (x y : AV) (xo yo : Operand) (T : Tbl) (K : AV → Prop) (_ : Tag K := .mk) : Prop := match x, y with
  | .ptr i o, .ptr j o' => ccO T[i]? (ccO T[j]? (peqA P (tk P t) op (decide (i = j ∧ o = o')) K))
  | x, y => binA P op t x y xo yo K

/-- one operation that reads, or looks at nothing -/
def rdA (P : Program) (ρ : Operand → AV) (o : Op) (ty : TypeId) (T : Tbl) (K : AV → Prop) (_ : Tag K := .mk) : Prop :=
  match o with
  | .move x => K (ρ x)
  | .assign x => K (ρ x)
  | .pick c a b => bpA (ρ c) (K (ρ a)) (K (ρ b))
  | .load t a => loadA P t (ρ a) T K
  | .nilCheck x => nilA (ρ x) (K (ρ x))
  | .binOp op t x y _ => bin2A P op t (ρ x) (ρ y) x y T K
  | .unOp op _ x => isP (ρ x) fun v => unV op v (pureK P K) fun v => K (.p v)
  | .convert s t x => cnvA P (tk P s) (tk P t) s t (ρ x) T K
  | .lookup t x i ok => lokA P (tk P t) (ρ x) (ρ i) ok T K
  | .fieldAddr s x f => fldA (tfo P s f) (ρ x) K
  | .field t x f => fdA P t f (ρ x) K
  | .indexAddr t x i => idxA P (tk P t) (ρ x) (ρ i) T K
  | .index t x i => ieA P (tk P t) (ρ x) (ρ i) K
  | .slice t x lo hi mx => slcA P (tk P t) (ρ x) (lo.map ρ) (hi.map ρ) (mx.map ρ) T K
  | .extract t i => exA (ρ t) i K
  | .makeFunc f first cap => (match first.size with
    | 0 => (match f with
      | .func g => K (.fn g (cap.toList.map ρ))
      | _ => False)
    | _ => False)
  | .makeInterface t x => mkiV (tk P t) t undef fun _ => K (.ic t (ρ x))
  | .call ⟨.builtin .len, args, ts⟩ => (match args.toList with
    | [x] => if ts.size = 0 then False else lnA (tk P (ts.getD 0 0)) (ρ x) T K
    | _ => False)
  | .call ⟨.builtin .max, args, ts⟩ => (match args.toList with
    | [x, y] => isP (ρ x) fun v => isP (ρ y) fun u => pureK P K (Builtin.max_ ts ty #[v, u])
    | _ => False)
  | .call ⟨.builtin .min, args, ts⟩ => (match args.toList with
    | [x, y] => isP (ρ x) fun v => isP (ρ y) fun u => pureK P K (Builtin.min_ ts ty #[v, u])
    | _ => False)
  | _ => False

section
variable {P : Program} {Γ : Heap} {ρ : List BI} {T : Tbl} {w : World} {a b : AV} {u v : Value} {K : AV → Prop}

/-- what is handed on, among the machine's values -/
def Lft (Γ : Heap) (ρ : List BI) (K : AV → Prop) : Value → Prop := fun v => ∃ a, Rel Γ ρ a v ∧ K a
theorem Lft.mk {Γ : Heap} {ρ : List BI} {K : AV → Prop} (h : Rel Γ ρ a v) (hk : K a) : Lft Γ ρ K v := ⟨a, h, hk⟩

theorem agr_self (h : St Γ ρ T w) : Agr Γ ρ T w w := ⟨h.of, fun _ _ _ _ _ _ _ _ => rfl⟩
theorem getO_elim {α : Type _} {o : Option α} {K : α → Prop} (h : getO o K) : ∃ x, o = some x ∧ K x := by
  cases o with
  | none => exact h.elim
  | some x => exact ⟨x, rfl, h⟩

/-- an object's cells, wherever worlds agree -/
theorem St.cells (h : St Γ ρ T w) {i : Nat} {o : AObj} {x : BI} {cs : List AV} (hT : T[i]? = some o) (hx : ρ[i]? = some x) (hc : o.cs = some cs) :
    ∃ vs, RelL Γ ρ cs vs ∧ (cs ≠ [] → x.blk.isSome = true) ∧ ∀ w', Agr Γ ρ T w w' → Rd w' (x.blk.map fun b => ⟨b, 0, none⟩) vs := by
  have ho := h.obj i o x hT hx
  have mk : ∀ (b : Nat) (c : Array Value) (E : TypeId) (vs : List Value), o.live = true → x.blk = some b → w.heap[b]? = some (.cells c E (0, 0)) → (∀ (k : Nat) (v : Value), vs[k]? = some v → c[k]? = some v) →
      ∀ w', Agr Γ ρ T w w' → Rd w' (x.blk.map fun b => ⟨b, 0, none⟩) vs := by
    intro b c E vs hl hb hw hv w' ha
    rw [hb]
    refine .inr ⟨⟨b, 0, none⟩, rfl, rfl, fun k v hk => ?_⟩
    rw [add_plain rfl]
    have := ha.2 i o x b hT hl hx hb
    rw [hw] at this
    simpa [World.cell?, this] using hv k v hk
  cases o with
  | cells E l =>
    cases hc
    obtain ⟨_, b, vs, h1, h2, h3⟩ := ho
    exact ⟨vs, h3, fun _ => by simp [h1], mk b _ E vs rfl h1 h2 fun k v hk => by simpa using hk⟩
  | buf E sz l =>
    cases hc
    obtain ⟨h0, n, h1, h2, ⟨h3, rfl, h5⟩ | ⟨b, cur, h3, h4, h5, h6, h7⟩⟩ := ho
    · exact ⟨[], .nil, fun h => (h rfl).elim, fun w' _ => .inl rfl⟩
    · refine ⟨_, h7, fun _ => by simp [h3], mk b _ E _ rfl h3 h4 fun k v hk => ?_⟩
      rw [List.getElem?_take] at hk
      split at hk
      · simpa using hk
      · cases hk
  | _ => cases hc
/-- cells that last -/
theorem row_rd {b o : Nat} {cs : List AV} {c : Array Value} {E : TypeId} {fr : Nat × Nat} {f : Nat → Value} (hb : Γ b = some (.cells c E fr)) (hc : ∀ k, k < cs.length → c[o + k]? = some (f k)) (hr : ∀ k (h : k < cs.length), Rel Γ [] (cs[k]) (f k)) :
    ∃ vs, RelL Γ ρ cs vs ∧ ∀ w', Γ.of w' → Rd w' (some ⟨b, o, none⟩) vs := by
  refine ⟨(List.range cs.length).map f, ⟨by simp, fun k x y hx hy => ?_⟩, fun w' hw => .inr ⟨_, rfl, rfl, fun k v hk => ?_⟩⟩
  · obtain ⟨hk, rfl⟩ := List.getElem?_eq_some_iff.1 hx
    simp [hk] at hy
    subst hy
    exact (hr k hk).mono (Heap.le_refl _) (by simp)
  · have hk' : k < cs.length := by have := (List.getElem?_eq_some_iff.1 hk).1; simpa using this
    simp [hk'] at hk
    subst hk
    rw [add_plain rfl]
    simpa [World.cell?, hw.1 _ _ hb] using hc k hk'

theorem tak_true {t : TypeId} (h : tak P t = some true) : tis (tk P t) = true ∧ tagg (tk P t) = true := by
  unfold tak at h
  split at h
  · rename_i h1; exact ⟨h1, by simpa using h⟩
  · cases h
theorem tak_false {t : TypeId} (h : tak P t = some false) : tis (tk P t) = true ∧ tagg (tk P t) = false := by
  unfold tak at h
  split at h
  · rename_i h1; exact ⟨h1, by simpa using h⟩
  · cases h

theorem getA_run {t : TypeId} {cs : List AV} {vs : List Value} {off : Nat} {ad : Option Addr} {I : World → Prop} (h : getA (tak P t) (tsz P t) cs off K) (hr : RelL Γ ρ cs vs) (hI : ∀ w', I w' → Rd w' ad vs) :
    FloatP P (Instr.loadAt t (.pointer (sh ad off))) I (Lft Γ ρ K) := by
  unfold getA at h
  split at h
  · rename_i h0
    obtain ⟨h1, h2⟩ := tak_true h0
    obtain ⟨⟨h3, h4⟩, hk⟩ := h
    refine ⟨_, fun w' hw => run_loadn (hI w' hw) _ rfl h3 (by rw [← hr.1]; exact h4) (by rw [h1, h2]; rfl), _, Rel.ag' ((hr.drop off).take _), hk⟩
  · rename_i h0
    obtain ⟨h1, h2⟩ := tak_false h0
    obtain ⟨x, hx, hk⟩ := getO_elim h
    obtain ⟨v, hv, hrv⟩ := hr.get hx
    exact ⟨v, fun w' hw => run_load1 (hI w' hw) hv (by rw [h1, h2]; rfl), x, hrv, hk⟩
  · exact h.elim

theorem loadA_sound {t : TypeId} (hs : St Γ ρ T w) (hr : Rel Γ ρ a v) (h : loadA P t a T K) : ptrV v fun p => FloatP P (Instr.loadAt t (.pointer p)) (Agr Γ ρ T w) (Lft Γ ρ K) := by
  cases a <;> try exact h.elim
  · rename_i i off
    cases hr with
    | @ptr _ _ _ b x hx hb =>
    simp only [loadA] at h
    have key : ∀ o cs, T[i]? = some o → o.cs = some cs → getA (tak P t) (tsz P t) cs off K → FloatP P (Instr.loadAt t (.pointer (some ⟨b, off, none⟩))) (Agr Γ ρ T w) (Lft Γ ρ K) := by
      intro o cs hT hc hg
      obtain ⟨vs, h1, _, h2⟩ := hs.cells hT hx hc
      rw [hb] at h2
      have := getA_run hg h1 h2
      simpa [sh, add_plain] using this
    unfold csA at h
    split at h
    · exact key _ _ (by assumption) rfl h
    · exact key _ _ (by assumption) rfl h
    · exact h.elim
  · cases hr with
    | vp hb hc hr =>
    obtain ⟨vs, h1, h2⟩ := row_rd (ρ := ρ) hb hc hr
    have := getA_run (I := Agr Γ ρ T w) h h1 fun w' hw => h2 w' hw.1
    show FloatP P _ _ _
    simpa [sh, add_plain] using this

theorem agA_elim {K : List AV → Prop} (h : agA a K) (hr : Rel Γ ρ a v) : ∃ cs vs, v = .agg vs ∧ RelL Γ ρ cs vs.toList ∧ K cs := by
  unfold agA at h
  split at h
  · obtain ⟨vs, rfl, h1⟩ := hr.ag_inv
    exact ⟨_, _, rfl, by simpa using h1, h⟩
  · have := hr.p_inv
    subst this
    exact ⟨_, _, rfl, .ps _, h⟩
  · exact h.elim
theorem getA_part {t : TypeId} {cs : List AV} {vs : Array Value} {off : Nat} (h : getA (tak P t) (tsz P t) cs off K) (hr : RelL Γ ρ cs vs.toList) : ∃ v, (∀ w, (part t vs off).run P w = .ok v w) ∧ Lft Γ ρ K v := by
  unfold getA at h
  split at h
  · rename_i h0
    obtain ⟨h1, h2⟩ := tak_true h0
    obtain ⟨⟨h3, h4⟩, hk⟩ := h
    obtain ⟨i, hi, hs, _⟩ := info_of_tsz (P := P) (t := t) (by omega)
    refine ⟨.agg (vs.extract off (off + tsz P t)), fun w => ?_, _, ?_, hk⟩
    · simp [part, run_isAgg h1, h2, sizeOf, typeInfo, hi, hs]
    · have := Rel.ag' ((hr.drop off).take (tsz P t))
      have e : (vs.toList.drop off).take (tsz P t) = (vs.extract off (off + tsz P t)).toList := by
        rw [Array.toList_extract]; simp [List.extract]
      rwa [e, Array.toArray_toList] at this
  · rename_i h0
    obtain ⟨h1, h2⟩ := tak_false h0
    obtain ⟨x, hx, hk⟩ := getO_elim h
    obtain ⟨v, hv, hrv⟩ := hr.get hx
    have hv' : vs[off]? = some v := by simpa using hv
    exact ⟨v, fun w => by simp [part, run_isAgg h1, h2, hv'], x, hrv, hk⟩
  · exact h.elim

theorem FloatP.mono {s : Sem Value} {I J : World → Prop} {K K' : Value → Prop} (h : FloatP P s I K) (hI : ∀ w, J w → I w) (hk : ∀ v, K v → K' v) : FloatP P s J K' := by
  obtain ⟨v, h1, h2⟩ := h
  exact ⟨v, fun w hw => h1 w (hI w hw), hk v h2⟩
theorem pureK_lift {s : Sem Value} (h : pureK P K s) (I : World → Prop) : FloatP P s I (Lft Γ ρ K) := FloatP.mono h (fun _ _ => trivial) fun v hv => ⟨_, .p v, hv⟩
end
end Go.E

set_option linter.unusedSimpArgs false
set_option linter.unusedVariables false
set_option linter.unusedSectionVars false
namespace Go.E
section
variable {P : Program}
theorem CondP.mono {v : Value} {A B A' B' : Prop} (h : CondP v A B) (ha : A → A') (hb : B → B') : CondP v A' B' := ⟨fun e => ha (h.1 e), fun e => hb (h.2.1 e), h.2.2⟩
theorem intV_mono {op : BinOp} {k : IntKind} {x y : Int} {K K' : Value → Prop} (h : intV op k x y K) (hk : ∀ v, K v → K' v) : intV op k x y K' := by
  cases op <;> simp only [intV, cmpV, bitV] at h ⊢ <;> first | exact h.elim | exact hk _ h | exact ⟨h.1, hk _ h.2⟩
theorem shiftV_mono {op : BinOp} {k : IntKind} {x y : Int} {K K' : Value → Prop} (h : shiftV op k x y K) (hk : ∀ v, K v → K' v) : shiftV op k x y K' := by
  cases op <;> simp only [shiftV] at h ⊢ <;> first | exact h.elim | exact ⟨h.1, hk _ h.2⟩
theorem bolV_mono {d : TypeDesc} {A B : Prop} (h : bolV d A) (hk : A → B) : bolV d B := by cases d <;> first | exact h.elim | exact hk h
theorem pntV_mono {d : TypeDesc} {A B : Prop} (h : pntV d A) (hk : A → B) : pntV d B := by cases d <;> first | exact h.elim | exact hk h
theorem binV_mono {op : BinOp} {t : TypeId} {x y : Value} {xo yo : Operand} {F F' : Sem Value → Prop} {K K' : Value → Prop} (h : binV P op t x y xo yo F K) (hf : ∀ s, F s → F' s) (hk : ∀ v, K v → K' v) : binV P op t x y xo yo F' K' := by
  unfold binV at h ⊢
  split <;> simp only at h <;> first
    | exact shiftV_mono h hk
    | exact ⟨h.1, intV_mono h.2 hk⟩
    | exact bolV_mono h (hk _)
    | exact pntV_mono h (hk _)
    | (split at h <;> first | (exfalso; simp_all; done) | exact hf _ h)
    | exact hf _ h
theorem unV_mono {op : UnOp} {x : Value} {F F' : Sem Value → Prop} {K K' : Value → Prop} (h : unV op x F K) (hf : ∀ s, F s → F' s) (hk : ∀ v, K v → K' v) : unV op x F' K' := by
  unfold unV at h ⊢
  split <;> simp only at h <;> first | exact hk _ h | (split at h <;> first | (exfalso; simp_all; done) | exact hf _ h) | exact hf _ h
theorem convV_mono {d e : TypeDesc} {s t : TypeId} {x : Value} {F F' : Sem Value → Prop} {K K' : Value → Prop} (h : convV d e s t x F K) (hf : ∀ s, F s → F' s) (hk : ∀ v, K v → K' v) : convV d e s t x F' K' := by
  unfold convV at h ⊢
  split <;> simp only at h <;> first | exact hk _ h | (split at h <;> first | (exfalso; simp_all; done) | exact hf _ h) | exact hf _ h
theorem mkiV_elim {d : TypeDesc} {t : TypeId} {x : Value} {K : Value → Prop} {A : Prop} (h : mkiV d t x fun _ => A) (hk : A → K (.iface t x)) : mkiV d t x K := by cases d <;> first | exact h.elim | exact hk h
theorem mkiV_x {d : TypeDesc} {t : TypeId} {x y : Value} {A : Prop} (h : mkiV d t x fun _ => A) : mkiV d t y fun _ => A := by cases d <;> first | exact h.elim | exact h

variable {Γ : Heap} {ρ : List BI} {T : Tbl} {w : World} {K : AV → Prop} {a b : AV} {u v : Value} {I : World → Prop}

theorem isP_elim {K : Value → Prop} (h : isP a K) (hr : Rel Γ ρ a v) : K v := by
  cases a <;> first | exact h.elim | (have := hr.p_inv; subst this; exact h)

theorem pureK_mono (s : Sem Value) : pureK P K s → FloatP P s I (Lft Γ ρ K) := fun h => pureK_lift h I
theorem pureK_val : ∀ v, K (.p v) → Lft Γ ρ K v := fun v h => ⟨_, .p v, h⟩

theorem nilK_elim {d : TypeDesc} {op : BinOp} {xo yo : Operand} {t : TypeId} {ad : Addr} (hd : tk P t = d) (h : nilK d op K) : binV P op t (.pointer (some ad)) (.pointer none) xo yo (fun s => FloatP P s I (Lft Γ ρ K)) (Lft Γ ρ K) := by
  unfold nilK at h
  split at h
  · simp only [binV, hd, pntV]; exact ⟨_, .p _, h⟩
  · simp only [binV, hd, pntV]; exact ⟨_, .p _, h⟩
  · exact h.elim

theorem binV_agg1 {op : BinOp} {t : TypeId} {xs : Array Value} {y : Value} {xo yo : Operand} {F : Sem Value → Prop} {K : Value → Prop} (h : F (do eqGuard op t xo yo (.agg xs) y; binOp op t (.agg xs) y)) : binV P op t (.agg xs) y xo yo F K := by
  unfold binV; split <;> first | exact h | (exfalso; simp_all; done)
theorem binV_agg2 {op : BinOp} {t : TypeId} {x : Value} {ys : Array Value} {xo yo : Operand} {F : Sem Value → Prop} {K : Value → Prop} (h : F (do eqGuard op t xo yo x (.agg ys); binOp op t x (.agg ys))) : binV P op t x (.agg ys) xo yo F K := by
  unfold binV; split <;> first | exact h | (exfalso; simp_all; done)
theorem binV_map {op : BinOp} {t : TypeId} {b : Nat} {xo yo : Operand} {F : Sem Value → Prop} {K : Value → Prop} (h : F (do eqGuard op t xo yo (.map (some b)) (.map none); binOp op t (.map (some b)) (.map none))) : binV P op t (.map (some b)) (.map none) xo yo F K := by
  unfold binV; split <;> first | exact h | (exfalso; simp_all; done)
theorem run_equal_map {t k e : TypeId} (w : World) (b : Nat) (ht : tk P t = .map k e) : (Op.equal t (.map (some b)) (.map none)).run P w = .ok false w := by
  unfold Op.equal
  rw [show Op.maxDepth = 9999 + 1 from rfl, Op.equalIn]
  simp only [Sem.run_bind, tis_of ht rfl]
  rfl
theorem nilM_elim {op : BinOp} {b : Nat} {xo yo : Operand} {t : TypeId} (h : nilM (tk P t) op K) : binV P op t (.map (some b)) (.map none) xo yo (fun s => FloatP P s I (Lft Γ ρ K)) (Lft Γ ρ K) := by
  refine binV_map ?_
  unfold nilM at h
  split at h
  · rename_i ht
    exact ⟨.bool false, fun w _ => run_guarded (by simp [eqGuard]) (by simp only [binOp, Sem.run_bind, run_equal_map w _ ht]; rfl), _, .p _, h⟩
  · rename_i ht
    exact ⟨.bool true, fun w _ => run_guarded (by simp [eqGuard]) (by simp only [binOp, Sem.run_bind, run_equal_map w _ ht]; rfl), _, .p _, h⟩
  · exact h.elim

theorem binA_sound {op : BinOp} {t : TypeId} {xo yo : Operand} (h : binA P op t a b xo yo K) (hx : Rel Γ ρ a u) (hy : Rel Γ ρ b v) : binV P op t u v xo yo (fun s => FloatP P s I (Lft Γ ρ K)) (Lft Γ ρ K) := by
  unfold binA at h
  split at h
  · cases hx; have := hy.p_inv; subst this; exact nilK_elim rfl h
  · cases hx; have := hy.p_inv; subst this; exact nilK_elim rfl h
  · cases hx with | mp hx hb => have := hy.p_inv; subst this; exact nilM_elim h
  · have := hx.p_inv; subst this; have := hy.p_inv; subst this
    exact binV_mono h (fun s => pureK_mono s) pureK_val
  · obtain ⟨as, e1, h⟩ := getO_elim h
    obtain ⟨bs, e2, h⟩ := getO_elim h
    have f1 := hx.flat (u := .agg as.toArray) (by simp [AV.flat, e1])
    have f2 := hy.flat e2
    subst f1; subst f2
    exact binV_agg1 (pureK_mono _ h)
  · obtain ⟨bs, e2, h⟩ := getO_elim h
    have f1 := hx.p_inv
    have f2 := hy.flat (u := .agg bs.toArray) (by simp [AV.flat, e2])
    subst f1; subst f2
    exact binV_agg2 (pureK_mono _ h)
  · exact h.elim

theorem run_equal_pp {t e : TypeId} (w : World) (a b : Addr) (ht : tk P t = .pointer e) (he : tsz P e ≠ 0) : (Op.equal t (.pointer (some a)) (.pointer (some b))).run P w = (sameAddr a b).run P w := by
  obtain ⟨i, hi, hs, _⟩ := info_of_tsz he
  unfold Op.equal
  have hsz : ∀ w, (sizeOf e).run P w = .ok (tsz P e) w := fun w => by simp [sizeOf, typeInfo, hi, hs]
  rw [show Op.maxDepth = 9999 + 1 from rfl, Op.equalIn]
  simp only [Sem.run_bind, tis_of ht rfl, Result.andThen_ok, hsz, ne_eq, he, not_false_eq_true, if_true]
theorem binV_ptr {op : BinOp} {t : TypeId} {a b : Addr} {xo yo : Operand} {F : Sem Value → Prop} {K : Value → Prop} (h : F (do eqGuard op t xo yo (.pointer (some a)) (.pointer (some b)); binOp op t (.pointer (some a)) (.pointer (some b)))) : binV P op t (.pointer (some a)) (.pointer (some b)) xo yo F K := by
  unfold binV; split <;> first | exact h | (exfalso; simp_all; done)
theorem bin2A_sound {op : BinOp} {t : TypeId} {xo yo : Operand} (hs : St Γ ρ T w) (h : bin2A P op t a b xo yo T K) (hx : Rel Γ ρ a u) (hy : Rel Γ ρ b v) : binV P op t u v xo yo (fun s => FloatP P s (Agr Γ ρ T w) (Lft Γ ρ K)) (Lft Γ ρ K) := by
  unfold bin2A at h
  split at h
  · rename_i i o j o'
    have hc : ∀ {i : Nat} {K : Prop}, ccO T[i]? K → (∃ ob, T[i]? = some ob ∧ ob.live = true ∧ ∃ cs, ob.cs = some cs) ∧ K := fun {i K} h => by
      unfold ccO at h
      split at h
      · rename_i g; exact ⟨⟨_, g, rfl, _, rfl⟩, h⟩
      · rename_i g; exact ⟨⟨_, g, rfl, _, rfl⟩, h⟩
      · exact h.elim
    obtain ⟨⟨o1, h1, hl1, cs1, hc1⟩, h⟩ := hc h
    obtain ⟨⟨o2, h2, hl2, cs2, hc2⟩, h⟩ := hc h
    cases hx with
    | @ptr _ _ _ b1 x1 hx1 hb1 =>
    cases hy with
    | @ptr _ _ _ b2 x2 hx2 hb2 =>
    have hobj : ∀ {i : Nat} {ob : AObj} {x : BI} {b : Nat} {cs : List AV}, T[i]? = some ob → ρ[i]? = some x → x.blk = some b → ob.cs = some cs → ∃ c E, w.heap[b]? = some (.cells c E (0, 0)) := fun {i ob x b cs} h1 h2 h3 h4 => by
      have := hs.obj _ _ _ h1 h2
      cases ob with
      | cells E l => obtain ⟨_, b', vs, g1, g2, _⟩ := this; rw [h3] at g1; cases g1; exact ⟨_, _, g2⟩
      | buf E sz l =>
        obtain ⟨_, n, _, _, ⟨g1, _⟩ | ⟨b', cur, g1, g2, _⟩⟩ := this
        · rw [h3] at g1; cases g1
        · rw [h3] at g1; cases g1; exact ⟨_, _, g2⟩
      | map es => cases h4
      | raw ob => cases h4
      | rcd ob _ _ => cases h4
      | gone => cases h4
    obtain ⟨c1, E1, w1⟩ := hobj h1 hx1 hb1 hc1
    obtain ⟨c2, E2, w2⟩ := hobj h2 hx2 hb2 hc2
    have hrun : ∀ w', Agr Γ ρ T w w' → (sameAddr (⟨b1, o, none⟩ : Addr) ⟨b2, o', none⟩).run P w' = .ok (decide (i = j ∧ o = o')) w' := fun w' ha => by
      have k1 := ha.2 _ _ _ _ h1 hl1 hx1 hb1
      have k2 := ha.2 _ _ _ _ h2 hl2 hx2 hb2
      rw [w1] at k1; rw [w2] at k2
      by_cases hij : i = j ∧ o = o'
      · obtain ⟨rfl, rfl⟩ := hij
        rw [hx1] at hx2; cases hx2; rw [hb1] at hb2; cases hb2
        rw [run_sameAddr_same]; simp
      · rw [run_sameAddr_other w' (a := (⟨b1, o, none⟩ : Addr)) (b := ⟨b2, o', none⟩) ?_ k1 k2, decide_eq_false hij]
        intro e
        simp only [Addr.mk.injEq, and_true] at e
        refine hij ⟨?_, e.2⟩
        by_cases hne : i = j
        · exact hne
        · have := (hs.apart i o1 x1 b1 h1 hl1 hx1 hb1).2 j o2 x2 (fun e => hne e.symm) h2 hl2 hx2
          rw [hb2] at this
          exact absurd (by rw [e.1]) this
    have heq : ∀ {e : TypeId}, tk P t = .pointer e → tsz P e ≠ 0 → ∀ w', Agr Γ ρ T w w' → (Op.equal t (.pointer (some ⟨b1, o, none⟩)) (.pointer (some ⟨b2, o', none⟩))).run P w' = .ok (decide (i = j ∧ o = o')) w' := fun ht he w' ha => by
      rw [run_equal_pp w' _ _ ht he, hrun w' ha]
    generalize hd : tk P t = d at h
    unfold peqA at h
    refine binV_ptr ?_
    split at h
    · split at h
      · exact h.elim
      · rename_i hz
        exact ⟨_, fun w' ha => by simp only [eqGuard, binOp, Sem.run_bind, Sem.run_pure, Result.andThen_ok, heq hd hz w' ha, Bool.not_true, Bool.false_eq_true, if_false], _, .p _, h⟩
    · split at h
      · exact h.elim
      · rename_i hz
        exact ⟨_, fun w' ha => by simp only [eqGuard, binOp, Sem.run_bind, Sem.run_pure, Result.andThen_ok, heq hd hz w' ha, Bool.not_true, Bool.false_eq_true, if_false], _, .p _, h⟩
    · exact h.elim
  · exact binA_sound h hx hy
theorem fldA_sound {o : Option Nat} (h : fldA o a K) (hr : Rel Γ ρ a v) : fldV o v (Lft Γ ρ K) := by
  cases o with
  | none => cases a <;> exact h.elim
  | some k =>
    cases a <;> try exact h.elim
    · cases hr with | ptr hx hb => exact ⟨rfl, _, by simpa [sh, add_plain] using Rel.ptr hx hb, h⟩
    · cases hr with
      | vp hb hc hr =>
        refine ⟨rfl, _, ?_, h⟩
        rename_i off _ _ _ _ _ _
        have := Rel.vp (ρ := ρ) (off := off + k) hb hc hr
        simpa [sh, add_plain, Nat.add_assoc] using this

theorem csA_elim {o : Option AObj} {K : List AV → Prop} (h : csA o K) : ∃ x cs, o = some x ∧ x.cs = some cs ∧ K cs := by
  unfold csA at h
  split at h
  · exact ⟨_, _, rfl, rfl, h⟩
  · exact ⟨_, _, rfl, rfl, h⟩
  · exact h.elim
theorem St.at' (h : St Γ ρ T w) {i : Nat} {o : AObj} (hT : T[i]? = some o) : ∃ x, ρ[i]? = some x := by
  have hi := (List.getElem?_eq_some_iff.1 hT).1
  exact ⟨ρ[i]'(by rw [h.len]; exact hi), by simp [h.len, hi]⟩

theorem ixA_sound {sz : Nat} {F : Prop} (hz : sz ≠ 0) (hs : St Γ ρ T w) (h : ixA sz a b T K) (hx : Rel Γ ρ a u) (hy : Rel Γ ρ b v) : slV sz u v F (Lft Γ ρ K) := by
  unfold ixA at h
  split at h
  · obtain ⟨o, cs, h1, h2, ⟨h3, h4, h5⟩, hk⟩ := csA_elim h
    have := hy.p_inv; subst this
    cases hx with
    | sl hx ha hc h0 =>
      obtain ⟨vs, _, g1, _⟩ := hs.cells h1 hx h2
      rw [ha (.inl (by omega))]
      have g2 := g1 h5
      simp only [slV, if_neg hz]
      obtain ⟨bb, hb⟩ := Option.isSome_iff_exists.1 g2
      refine ⟨⟨h3, h4, by simp [hb]⟩, _, ?_, hk⟩
      rw [hb]
      simpa [sh, add_plain] using Rel.ptr hx hb
  · obtain ⟨⟨h3, h4, h5⟩, hk⟩ := h
    have := hy.p_inv; subst this
    cases hx with
    | vs0 h => exact (h.elim h5 (by omega)).elim
    | vs hm hb hc hr =>
      simp only [slV, if_neg hz]
      refine ⟨⟨h3, h4, rfl⟩, _, ?_, hk⟩
      simpa [sh, add_plain] using Rel.vp (ρ := ρ) hb hc hr
  · exact h.elim

theorem run_indexArr {t e : TypeId} {n : Nat} {ad : Addr} {k : IntKind} {x : Int} (ht : tk P t = .array n e) (hz : tsz P e ≠ 0) (h0 : 0 ≤ x) (h1 : x < n) (w : World) :
    (Instr.indexAt t (.pointer (some ad)) (.int k x)).run P w = .ok (.pointer (some (ad.add (x.toNat * tsz P e)))) w := by
  obtain ⟨i, hi, hs, _⟩ := info_of_tsz hz
  simp [Instr.indexAt, asIntOf, tis_of ht rfl, Instr.sureAddr, h0, h1, sizeOf, typeInfo, hi, hs]

theorem idxA_sound {t : TypeId} (hs : St Γ ρ T w) (h : idxA P (tk P t) a b T K) (hx : Rel Γ ρ a u) (hy : Rel Γ ρ b v) : idxV P (tk P t) t u v (fun s => FloatP P s I (Lft Γ ρ K)) (Lft Γ ρ K) := by
  generalize hd : tk P t = d at h
  unfold idxA at h
  split at h
  · split at h
    · exact h.elim
    · rename_i hz; exact ixA_sound hz hs h hx hy
  · split at h
    · exact h.elim
    · rename_i hz
      unfold ixaA at h
      split at h
      · obtain ⟨⟨h1, h2⟩, hk⟩ := h
        have := hy.p_inv; subst this
        cases hx with | ptr hx hb => exact ⟨_, fun w' _ => run_indexArr hd hz h1 h2 w', _, by rw [add_plain rfl]; exact Rel.ptr hx hb, hk⟩
      · obtain ⟨⟨h1, h2⟩, hk⟩ := h
        have := hy.p_inv; subst this
        cases hx with | vp hb hc hr => exact ⟨_, fun w' _ => run_indexArr hd hz h1 h2 w', _, by rw [add_plain rfl, Nat.add_assoc]; exact Rel.vp (ρ := ρ) hb hc hr, hk⟩
      · exact h.elim
  · exact h.elim

theorem fdA_sound {t : TypeId} {f : Nat} (h : fdA P t f a K) (hr : Rel Γ ρ a v) : FloatP P (Instr.field t v f) I (Lft Γ ρ K) := by
  obtain ⟨⟨off, ty⟩, h1, h⟩ := getO_elim h
  obtain ⟨cs, vs, rfl, h2, hg⟩ := agA_elim h hr
  obtain ⟨x, hx, hk⟩ := getA_part hg h2
  unfold tff at h1
  split at h1
  · rename_i fs hd
    cases hf : fs[f]? with
    | none => rw [hf] at h1; cases h1
    | some fd =>
      rw [hf] at h1
      cases h1
      exact ⟨x, fun w' _ => by simp [Instr.field, tis_of hd rfl, hf, asAgg, hx w'], hk⟩
  · cases h1

theorem ieA_sound {t : TypeId} (h : ieA P (tk P t) a b K) (hx : Rel Γ ρ a u) (hy : Rel Γ ρ b v) : FloatP P (Instr.index t u v) I (Lft Γ ρ K) := by
  generalize hd : tk P t = d at h
  unfold ieA at h
  split at h
  · obtain ⟨⟨h1, h2⟩, h⟩ := h
    have := hy.p_inv; subst this
    obtain ⟨cs, vs, rfl, h3, hg⟩ := agA_elim h hx
    split at hg
    · exact hg.elim
    · rename_i hz
      obtain ⟨i, hi, hs, _⟩ := info_of_tsz hz
      obtain ⟨x, hx, hk⟩ := getA_part hg h3
      exact ⟨x, fun w' _ => by simp [Instr.index, tis_of hd rfl, asIntOf, h1, h2, sizeOf, typeInfo, hi, hs, hx w'], hk⟩
  · have := hy.p_inv; subst this
    have h := isP_elim h hx
    split at h
    · obtain ⟨h1, h⟩ := h
      obtain ⟨x, h2, hk⟩ := getO_elim h
      exact ⟨_, fun w' _ => by simp [Instr.index, tis_of hd rfl, asIntOf, h1, h2], _, .p _, hk⟩
    · exact h.elim
  · exact h.elim

theorem exA_sound {i : Nat} (h : exA a i K) (hr : Rel Γ ρ a v) : extV v i (Lft Γ ρ K) := by
  unfold exA at h
  split at h
  · obtain ⟨vs, rfl, h1⟩ := hr.tu_inv
    obtain ⟨x, h2, hk⟩ := getO_elim h
    obtain ⟨y, h3, h4⟩ := h1.get h2
    simp only [extV, h3, extO]
    exact ⟨x, h4, hk⟩
  · have := hr.p_inv; subst this
    unfold extV at h ⊢
    split
    · simp only at h
      unfold extO at h ⊢
      split
      · simp_all only []; exact ⟨_, .p _, h⟩
      · simp_all
    · split at h <;> simp_all
  · exact h.elim

theorem run_getObjM {w' : World} {b : Nat} {ms : Array MapEntry} {c : Nat} (h : w'.heap[b]? = some (.map ms c)) : (getObj b).run P w' = .ok (.map ms c) w' := by simp [getObj, Sem.run, h]
theorem lnA_sound {ts : Array TypeId} {ty : TypeId} (hs : St Γ ρ T w) (hts : ts.size ≠ 0) (h : lnA (tk P (ts.getD 0 0)) a T K) (hr : Rel Γ ρ a v) :
    lenV P (tk P (ts.getD 0 0)) ts [v] ty (fun s => FloatP P s (Agr Γ ρ T w) (Lft Γ ρ K)) (Lft Γ ρ K) := by
  obtain ⟨t, h0⟩ : ∃ t, ts[0]? = some t := ⟨ts[0]'(by omega), by simp⟩
  have h1 : ts.getD 0 0 = t := by simp [h0]
  rw [h1] at h ⊢
  generalize hd : tk P t = d at h
  unfold lnA at h
  split at h
  · have := hr.p_inv; subst this; exact ⟨_, .p _, h⟩
  · cases hr; exact ⟨_, .p _, h⟩
  · cases hr <;> exact ⟨_, .p _, h⟩
  · have := hr.p_inv; subst this; exact ⟨_, .p _, h⟩
  · exact ⟨_, .p _, h⟩
  · have := hr.p_inv; subst this
    exact ⟨_, fun w' _ => by simp [Builtin.len_, h0, tis_of hd rfl]; rfl, _, .p _, h⟩
  · split at h
    · rename_i es hT
      cases hr with
      | mp hx hb =>
        obtain ⟨b', ms, c, g1, g2, g3⟩ := hs.obj _ _ _ hT hx
        rw [hb] at g1; cases g1
        have hl : ms.size = es.length := by have := g3.1.1; simpa using this.symm
        refine ⟨.int .i64 es.length, fun w' ha => ?_, _, .p _, h⟩
        have hw := ha.2 _ _ _ _ hT rfl hx hb
        rw [g2] at hw
        have hg := run_getObjM (P := P) hw
        simp [Builtin.len_, h0, tis_of hd rfl, hg, goInt, hl]
    · exact h.elim
  · exact h.elim

theorem bdA_elim {o : Option AV} {dflt : Nat} {K : Nat → Prop} {ov : Option Value} (h : bdA o dflt K) (hr : ∀ a, o = some a → ∃ v, ov = some v ∧ Rel Γ ρ a v) (hn : o = none → ov = none) :
    ∃ (k : IntKind) (n : Nat), (ov = some (.int k n) ∨ (ov = none ∧ n = dflt)) ∧ K n := by
  unfold bdA at h
  split at h
  · exact ⟨.i64, dflt, .inr ⟨hn rfl, rfl⟩, h⟩
  · obtain ⟨v, h1, h2⟩ := hr _ rfl
    have := h2.p_inv; subst this
    exact ⟨_, _, .inl (by rw [h1, Int.toNat_of_nonneg h.1]), h.2⟩
  · exact h.elim

theorem run_sliceArr {t e : TypeId} {n l h : Nat} {ad : Addr} (ht : tk P t = .array n e) (hs : tsz P e ≠ 0) (hl : l ≤ h) (hh : h ≤ n) (lo hi : Option Value) (k1 k2 : IntKind)
    (hlo : lo = some (.int k1 l) ∨ (lo = none ∧ l = 0)) (hhi : hi = some (.int k2 h) ∨ (hi = none ∧ h = n)) (w : World) :
    (Instr.sliceAt t (.pointer (some ad)) lo hi none).run P w = .ok (.slice (some (if n = l then ad else ad.add (l * tsz P e))) (h - l) (n - l)) w := by
  obtain ⟨i, hi', hsz, _⟩ := info_of_tsz hs
  have hb : (Instr.sliceBounds false n n lo hi none).run P w = .ok (l, h, n) w := by
    have g2 : ∀ u, (Instr.sliceBound (.int k2 (h : Int)) n u).run P w = .ok h w := fun u => by simp [Instr.sliceBound, asIntOf, hh]
    have g1 : ∀ u, (Instr.sliceBound (.int k1 (l : Int)) h u).run P w = .ok l w := fun u => by simp [Instr.sliceBound, asIntOf, hl]
    rcases hlo with rfl | ⟨rfl, rfl⟩ <;> rcases hhi with rfl | ⟨rfl, rfl⟩ <;> simp [Instr.sliceBounds, g1, g2]
  simp only [Instr.sliceAt, Sem.run_bind, tis_of ht rfl, Result.andThen_ok, Instr.sureAddr, Sem.run_pure, hb, sizeOf, typeInfo, run_program, hi', hsz]

theorem Rel.vs_of {b o n c : Nat} {cs : List AV} {cc : Array Value} {E : TypeId} {fr : Nat × Nat} {f : Nat → Value} (hb : Γ b = some (.cells cc E fr)) (hc : ∀ k, k < cs.length → cc[o + k]? = some (f k)) (hr : ∀ k (h : k < cs.length), Rel Γ [] (cs[k]) (f k))
    (l m : Nat) (hn : n ≤ c) : Rel Γ ρ (.vs ((cs.drop l).take m) n) (.slice (some ⟨b, o + l, none⟩) n c) := by
  refine Rel.vs (f := fun k => f (l + k)) hn hb (fun k hk => ?_) (fun k hk => ?_)
  · simp only [List.length_take, List.length_drop] at hk
    rw [Nat.add_assoc]; exact hc (l + k) (by omega)
  · simp only [List.length_take, List.length_drop] at hk
    simpa using hr (l + k) (by omega)

theorem pcA_sound {e t : TypeId} {l h : Nat} {k1 k2 : IntKind} {lo hi : Option Value} {n : Nat} (ht : tk P t = .slice e) (hz : tsz P e ≠ 0) (hp : pcA (tsz P e) a l h T K) (hr : Rel Γ ρ a v) {b0 : Option Addr} {c0 : Nat} (hlen : v = .slice b0 n c0)
    (hlo : lo = some (.int k1 l) ∨ (lo = none ∧ l = 0)) (hhi : hi = some (.int k2 h) ∨ (hi = none ∧ h = n)) : FloatP P (Instr.sliceAt t v lo hi none) I (Lft Γ ρ K) := by
  have fin : ∀ {a : Option Addr} {m c : Nat}, v = .slice a m c → l ≤ h → h ≤ c → ∀ w', (Instr.sliceAt t v lo hi none).run P w' = .ok (.slice (sa a l c (tsz P e)) (h - l) (c - l)) w' := by
    intro a m c hv h1 h2 w'
    have hm : m = n := by rw [hv] at hlen; cases hlen; rfl
    subst hm; subst hv
    exact run_slice ht hz h1 h2 lo hi k1 k2 hlo hhi w'
  unfold pcA at hp
  split at hp
  · rename_i i off m
    obtain ⟨⟨h1, h2⟩, hk⟩ := hp
    cases hr with
    | @sl _ _ _ _ c x ad hx ha hc h0 =>
      refine ⟨_, fun w' _ => fin rfl h1 (by omega) w', _, ?_, hk⟩
      have key : off + l * tsz P e = 0 → off = 0 ∧ l = 0 := fun h => by
        rcases Nat.mul_eq_zero.1 (show l * tsz P e = 0 by omega) with g | g
        · exact ⟨by omega, g⟩
        · exact (hz g).elim
      refine .sl hx (fun h3 => ?_) (by omega) fun h3 h4 => ?_
      · have e : sh (x.blk.map fun b => (⟨b, off, none⟩ : Addr)) (l * tsz P e) = x.blk.map fun b => (⟨b, off + l * tsz P e, none⟩ : Addr) := by
          cases x.blk <;> simp [sh, add_plain]
        rcases h3 with h3 | h3
        · rw [sa, if_neg (by omega), ha (.inl (by omega)), e]
        · obtain ⟨g1, rfl⟩ := key h3
          rw [sa_zero, ha (.inr g1)]
          simp
      · obtain ⟨g1, rfl⟩ := key h3
        rw [Nat.sub_zero]; exact h0 g1 h4
  · obtain ⟨⟨h1, h2⟩, hk⟩ := hp
    cases hr with
    | vs0 h0 hc => exact ⟨_, fun w' _ => fin rfl h1 (by omega) w', _, .vs0 (h0.imp (fun e => by rw [e]; simp) (fun e => by omega)) (by omega), hk⟩
    | @vs _ _ n m b o cc E fr f hm hb hc hr =>
      refine ⟨_, fun w' _ => fin rfl h1 (by omega) w', _, ?_, hk⟩
      unfold sa
      split
      · have : h - l = 0 := by omega
        exact .vs0 (.inr this) (by omega)
      · simpa [sh, add_plain] using Rel.vs_of (ρ := ρ) hb hc hr (l * tsz P e) ((h - l) * tsz P e) (show h - l ≤ m - l by omega)
  · obtain ⟨⟨rfl, rfl⟩, hk⟩ := hp
    have := hr.p_inv; subst this
    exact ⟨_, fun w' _ => fin rfl (Nat.le_refl _) (Nat.le_refl _) w', _, by simp only [sa_zero]; exact .p _, hk⟩
  · exact hp.elim

theorem lenA_elim {K : Nat → Prop} (h : lenA a K) (hr : Rel Γ ρ a v) : ∃ b n c, v = .slice b n c ∧ K n := by
  unfold lenA at h
  split at h
  · cases hr; exact ⟨_, _, _, rfl, h⟩
  · cases hr <;> exact ⟨_, _, _, rfl, h⟩
  · have := hr.p_inv; subst this; exact ⟨_, _, _, rfl, h⟩
  · exact h.elim

theorem slcA_sound {t : TypeId} {lo hi mx : Option AV} {lo' hi' mx' : Option Value} (h : slcA P (tk P t) a lo hi mx T K) (hs : St Γ ρ T w) (hr : Rel Γ ρ a v)
    (hlo : ∀ a, lo = some a → ∃ v, lo' = some v ∧ Rel Γ ρ a v) (hlo0 : lo = none → lo' = none) (hhi : ∀ a, hi = some a → ∃ v, hi' = some v ∧ Rel Γ ρ a v) (hhi0 : hi = none → hi' = none) (hmx : mx = none → mx' = none) :
    FloatP P (Instr.sliceAt t v lo' hi' mx') I (Lft Γ ρ K) := by
  generalize hd : tk P t = d at h
  unfold slcA at h
  split at h
  · rw [hmx rfl]
    split at h
    · exact h.elim
    · rename_i hz
      obtain ⟨b, n, c, rfl, h⟩ := lenA_elim h hr
      obtain ⟨k2, m, h2, h⟩ := bdA_elim h hhi hhi0
      obtain ⟨k1, l, h1, h⟩ := bdA_elim h hlo hlo0
      exact pcA_sound hd hz h hr rfl h1 h2
  · rw [hmx rfl]
    split at h
    · exact h.elim
    · rename_i hz
      split at h
      · rename_i i off
        unfold celA at h
        split at h
        · rename_i hT
          obtain ⟨k2, m, h2, h⟩ := bdA_elim h hhi hhi0
          obtain ⟨k1, l, h1, h⟩ := bdA_elim h hlo hlo0
          obtain ⟨⟨h3, h4⟩, hk⟩ := h
          cases hr with
          | @ptr _ _ _ _ x hx hb =>
            refine ⟨_, fun w' _ => run_sliceArr hd hz h3 h4 lo' hi' k1 k2 h1 h2 w', _, ?_, hk⟩
            have hg : x.grow = false := (hs.obj _ _ _ hT hx).1
            refine .sl hx (fun hn => ?_) (by omega) fun _ hg' => by rw [hg] at hg'; cases hg'
            rw [hb]
            split
            · rename_i hnl
              subst hnl
              rcases hn with hn | hn
              · omega
              · have : off = 0 := by omega
                rw [hn, this]; simp
            · rw [add_plain rfl]; rfl
        · exact h.elim
      · obtain ⟨k2, m, h2, h⟩ := bdA_elim h hhi hhi0
        obtain ⟨k1, l, h1, h⟩ := bdA_elim h hlo hlo0
        obtain ⟨⟨h3, h4, h5⟩, hk⟩ := h
        cases hr with
        | vp hb hc hr =>
          refine ⟨_, fun w' _ => run_sliceArr hd hz h3 h4 lo' hi' k1 k2 h1 h2 w', _, ?_, hk⟩
          split
          · exact .vs0 (.inr (by omega)) (by omega)
          · rw [add_plain rfl]
            rename_i off _ b o _ _ _ _ _ _
            simp only [Nat.add_assoc]
            exact Rel.vs_of hb hc hr _ _ (by omega)
      · exact h.elim
  · rw [hmx rfl]
    have h := isP_elim h hr
    split at h
    · rename_i s
      obtain ⟨k2, m, h2, h⟩ := bdA_elim h hhi hhi0
      obtain ⟨k1, l, h1, h⟩ := bdA_elim h hlo hlo0
      obtain ⟨⟨h3, h4⟩, hk⟩ := h
      refine ⟨_, fun w' _ => ?_, _, .p _, hk⟩
      have hb : (Instr.sliceBounds false s.size s.size lo' hi' none).run P w' = .ok (l, m, s.size) w' := by
        have g2 : ∀ u, (Instr.sliceBound (.int k2 (m : Int)) s.size u).run P w' = .ok m w' := fun u => by simp [Instr.sliceBound, asIntOf, h4]
        have g1 : ∀ u, (Instr.sliceBound (.int k1 (l : Int)) m u).run P w' = .ok l w' := fun u => by simp [Instr.sliceBound, asIntOf, h3]
        rcases h1 with rfl | ⟨rfl, rfl⟩ <;> rcases h2 with rfl | ⟨rfl, rfl⟩ <;> simp [Instr.sliceBounds, g1, g2]
      simp [Instr.sliceAt, Instr.slice, tis_of hd rfl, hb]
    · exact h.elim
  · exact h.elim

open Classical in
theorem kfind_rel {es : List (Value × AV)} {ms : List MapEntry} {c : Nat} (h : MapRel Γ ρ es ms c) (x : Value) :
    (kfind ms x = none ∧ mfind es x = none) ∨ ∃ (j : Nat) (e : MapEntry) (a : AV), kfind ms x = some (j, e.val) ∧ ms[j]? = some e ∧ e.key = x ∧ es[j]? = some (x, a) ∧ mfind es x = some a ∧ Rel Γ ρ a e.val := by
  obtain ⟨h1, h2, _, _, h5⟩ := h
  have hlen : es.length = ms.length := by simpa using congrArg List.length h2
  have hk : ∀ (i : Nat) (g1 : i < es.length) (g2 : i < ms.length), (es[i]).1 = (ms[i]).key := fun i g1 g2 => by
    have := congrArg (·[i]?) h2
    simpa [g1, g2] using this
  unfold kfind mfind
  cases hf : ms.findIdx? (fun e => decide (e.key = x)) with
  | none =>
    rw [List.findIdx?_eq_none_iff] at hf
    have : es.find? (fun e => decide (e.1 = x)) = none := List.find?_eq_none.2 fun e he => by
      obtain ⟨i, hi, rfl⟩ := List.getElem_of_mem he
      have := hf (ms[i]'(by omega)) (by simp)
      rw [hk i hi (by omega)]; simpa using this
    exact .inl ⟨rfl, by rw [this]; rfl⟩
  | some j =>
    rw [List.findIdx?_eq_some_iff_getElem] at hf
    obtain ⟨hj, hp, hlt⟩ := hf
    have hje : j < es.length := by omega
    have hx : (es[j]).1 = x := by rw [hk j hje hj]; simpa using hp
    have hfe : es.find? (fun e => decide (e.1 = x)) = some (es[j]) := by
      rw [List.find?_eq_some_iff_getElem]
      refine ⟨by simpa using hx, j, hje, rfl, fun i hi => ?_⟩
      have := hlt i hi
      rw [hk i (by omega) (by omega)]; simpa using this
    refine .inr ⟨j, ms[j], (es[j]).2, by simp [hj], by simp [hj], by simpa using hp, ?_, by rw [hfe]; rfl, h1.2 j _ _ (by simp [hje]) (by simp [hj])⟩
    rw [List.getElem?_eq_getElem hje, ← hx]
theorem und_of {d : TypeDesc} {t : TypeId} (h : tk P t = d) (hd : tis d = true) : P.underlying t = some d := by
  have := underlying_some (P := P) (t := t) (by rw [h]; exact hd)
  rw [this, h]
theorem zero_run {e : TypeId} {z : Value} (hz : tzr P e = some z) (w : World) : (zeroValue e).run P w = .ok z w := by
  unfold tzr at hz
  cases hi : P.info? e with
  | none => rw [hi] at hz; cases hz
  | some i =>
    rw [hi] at hz
    have hz' : i.zero = some z := hz
    simp [zeroValue, typeInfo, hi, hz']
theorem lokA_sound {t : TypeId} {ok : Bool} (hs : St Γ ρ T w) (h : lokA P (tk P t) a b ok T K) (hx : Rel Γ ρ a u) (hy : Rel Γ ρ b v) : FloatP P (Instr.lookup t u v ok) (Agr Γ ρ T w) (Lft Γ ρ K) := by
  generalize hd : tk P t = d at h
  unfold lokA at h
  split at h
  · rename_i kt e
    obtain ⟨kv, hk, h⟩ := getO_elim h
    obtain ⟨z, hz, h⟩ := getO_elim h
    have := hy.flat hk; subst this
    unfold lokB at h
    split at h
    · rename_i i
      unfold lokC at h
      split at h
      · rename_i es hT
        obtain ⟨⟨S, hS, hk1, hk2⟩, h⟩ := h
        cases hx with
        | @mp _ _ bb x hx hb =>
        obtain ⟨b', ms, c, g1, g2, g3⟩ := hs.obj _ _ _ hT hx
        rw [hb] at g1; cases g1
        have hget : ∀ w', Agr Γ ρ T w w' → (getObj bb).run P w' = .ok (.map ms c) w' := fun w' ha => run_getObjM (by have := ha.2 _ _ _ _ hT rfl hx hb; rw [g2] at this; exact this)
        have hkeys : ∀ e ∈ ms.toList, S e.key := fun e he => by
          have : e.key ∈ ms.toList.map (·.key) := List.mem_map_of_mem he
          rw [← g3.2.1] at this
          obtain ⟨p, hp, e2⟩ := List.mem_map.1 this
          rw [← e2]; exact hk2 p hp
        have hrun : ∀ w', Agr Γ ρ T w w' → (Instr.lookup t (.map (some bb)) v ok).run P w' = .ok (match kfind ms.toList v with | some (_, x) => if ok then .tuple #[x, .bool true] else x | none => if ok then .tuple #[z, .bool false] else z) w' := by
          intro w' ha
          have e1 := hget w' ha
          have e2 := fun em => hS.check w' em hk1
          have e3 := hS.find w' hk1 ms.toList hkeys g3.2.2.2.2
          have e4 := zero_run (P := P) hz w'
          simp only [Instr.lookup, Sem.run_bind, tis_of hd rfl, Result.andThen_ok, e1, Sem.run_pure, e2, e3]
          cases kfind ms.toList v with
          | none => simp only [Sem.run_bind, e4, Result.andThen_ok, Sem.run_pure]
          | some p => simp only [Sem.run_bind, Sem.run_pure, Result.andThen_ok]
        rcases kfind_rel g3 v with ⟨e1, e2⟩ | ⟨j, e0, a0, e1, _, _, _, e5, hr⟩
        · rw [e2] at h
          cases ok with
          | true => exact ⟨_, fun w' ha => by rw [hrun w' ha, e1]; rfl, _, .tu' (vs := [z, .bool false]) (.cons (.p _) (.cons (.p _) .nil)), h⟩
          | false => exact ⟨_, fun w' ha => by rw [hrun w' ha, e1]; rfl, _, .p _, h⟩
        · rw [e5] at h
          cases ok with
          | true => exact ⟨_, fun w' ha => by rw [hrun w' ha, e1]; rfl, _, .tu' (vs := [e0.val, .bool true]) (.cons hr (.cons (.p _) .nil)), h⟩
          | false => exact ⟨_, fun w' ha => by rw [hrun w' ha, e1]; rfl, _, hr, h⟩
      · exact h.elim
    · have := hx.p_inv; subst this
      obtain ⟨⟨S, hS, hk1, hk2⟩, h⟩ := h
      have hrun : ∀ w', (Instr.lookup t (.map none) v ok).run P w' = .ok (if ok then .tuple #[z, .bool false] else z) w' := by
        intro w'
        have e2 := fun em => hS.check w' em hk1
        have e3 := hS.find w' hk1 [] (by simp) (by simp)
        have e4 := zero_run (P := P) hz w'
        have e5 : kfind [] v = none := rfl
        simp only [Instr.lookup, Sem.run_bind, tis_of hd rfl, Result.andThen_ok, Sem.run_pure, e2, e3, e4, e5]
      cases ok with
      | true => exact ⟨_, fun w' _ => hrun w', _, .tu' (vs := [z, .bool false]) (.cons (.p _) (.cons (.p _) .nil)), h⟩
      | false => exact ⟨_, fun w' _ => hrun w', _, .p _, h⟩
    · exact h.elim
  · exact h.elim
theorem srcA_elim' {sz : Nat} {K : List AV → Nat → Prop} (h : srcA sz a T K) (hs : St Γ ρ T w) (hr : Rel Γ ρ a v) : ∃ (e : Option Addr) (m d : Nat) (ys : List AV) (us : List Value), v = .slice e m d ∧ RelL Γ ρ ys us ∧ ys.length = m * sz ∧ (∀ w', Agr Γ ρ T w w' → Rd w' e us) ∧ K ys m := by
  unfold srcA at h
  split at h
  · rename_i cs n
    obtain ⟨h1, h⟩ := h
    cases hr with
    | @vs0 _ _ _ c ad h0 hc =>
      have h2 : cs = [] := by
        rcases h0 with h0 | h0
        · exact h0
        · subst h0; exact List.eq_nil_of_length_eq_zero (by simpa using h1)
      subst h2
      exact ⟨_, _, _, _, [], rfl, .nil, h1, fun _ _ => .inl rfl, h⟩
    | vs hm hb hc hr =>
      obtain ⟨us, h2, h3⟩ := row_rd (ρ := ρ) hb hc hr
      exact ⟨_, _, _, _, us, rfl, h2, h1, fun w' ha => h3 w' ha.1, h⟩
  · rename_i j off n
    obtain ⟨o, cs, h1, h2, h3, h⟩ := csA_elim h
    cases hr with
    | @sl _ _ _ _ c x ad hx ha hc h0 =>
      obtain ⟨vs, g1, g2, g3⟩ := hs.cells h1 hx h2
      refine ⟨_, _, _, _, (vs.drop off).take (n * sz), rfl, (g1.drop off).take _, by simp; omega, fun w' hw' => ?_, h⟩
      by_cases hn : n = 0
      · subst hn; exact .inl (by simp)
      · rw [ha (.inl (by omega))]
        have := ((g3 w' hw').drop off).take (n * sz)
        have e : sh (x.blk.map fun b => (⟨b, 0, none⟩ : Addr)) off = x.blk.map fun b => (⟨b, off, none⟩ : Addr) := by cases x.blk <;> simp [sh, add_plain]
        rwa [e] at this
  · have := hr.p_inv; subst this
    exact ⟨_, _, _, [], [], rfl, .nil, by simp, fun _ _ => .inl rfl, h⟩
  · exact h.elim
theorem bytesA_spec : ∀ {cs : List AV} {bs : List UInt8}, bytesA cs = some bs → ∃ ns : List Int, cs = ns.map (fun n => .p (.int .u8 n)) ∧ bs = ns.map fun n => UInt8.ofNat n.toNat
  | [], bs, h => by cases h; exact ⟨[], rfl, rfl⟩
  | .p (.int .u8 n) :: r, bs, h => by
    simp only [bytesA, Option.map_eq_some_iff] at h
    obtain ⟨l, hl, rfl⟩ := h
    obtain ⟨ns, rfl, rfl⟩ := bytesA_spec hl
    exact ⟨n :: ns, rfl, rfl⟩
theorem push_all : ∀ (ns : List Int) (s : ByteArray), ns.foldl (fun r n => r.push (UInt8.ofNat n.toNat)) s = ⟨(s.data.toList ++ ns.map fun n => UInt8.ofNat n.toNat).toArray⟩
  | [], s => by simp
  | n :: ns, s => by
    rw [List.foldl_cons, push_all ns]
    congr 1
    simp [ByteArray.push]
theorem cnvA_sound {s t : TypeId} (hs : St Γ ρ T w) (h : cnvA P (tk P s) (tk P t) s t a T K) (hr : Rel Γ ρ a v) : convV (tk P s) (tk P t) s t v (fun s => FloatP P s (Agr Γ ρ T w) (Lft Γ ρ K)) (Lft Γ ρ K) := by
  generalize hd : tk P s = d at h ⊢
  generalize he : tk P t = e at h ⊢
  unfold cnvA at h
  split at h
  · rename_i el
    obtain ⟨hel, h⟩ := h
    obtain ⟨ad, m, c, ys, us, rfl, h1, h2, h3, h⟩ := srcA_elim' h hs hr
    obtain ⟨bs, hb, h⟩ := getO_elim h
    obtain ⟨ns, rfl, rfl⟩ := bytesA_spec hb
    have hus : us = ns.map (Value.int .u8) := by
      have : RelL Γ ρ ((ns.map (Value.int .u8)).map .p) us := by simpa [Function.comp_def] using h1
      exact this.ps_inv
    subst hus
    simp only [convV]
    refine ⟨.string ⟨(ns.map fun n => UInt8.ofNat n.toNat).toArray⟩, fun w' hw' => ?_, _, .p _, h⟩
    rw [run_convert_bytes_string w' s t el ad m c (und_of hd rfl) (und_of hel rfl) (und_of he rfl)]
    have hm : ns.length = m := by simpa using h2
    rcases h3 w' hw' with h0 | ⟨p, rfl, hp, hc⟩
    · have : ns = [] := by simpa using h0
      subst this
      have : m = 0 := by simpa using hm.symm
      subst this
      cases ad <;> simp [Conv.bytesToString, loadCells, loadCellsFrom, ByteArray.empty, ByteArray.emptyWithCapacity] <;> rfl
    · have hl := run_loadCells_list (P := P) w' p (ns.map (Value.int .u8)) (fun j v hj => hc j v hj)
      rw [List.length_map, hm] at hl
      rw [run_bytesToString w' p m c ns hl, push_all]
      rfl
  · exact convV_mono (isP_elim h hr) (fun s => pureK_mono s) pureK_val
theorem getO_map {α β : Type _} {o : Option α} {f : α → β} (a : β) (h : o.map f = some a) : ∃ x, o = some x ∧ f x = a := by
  cases o with
  | none => cases h
  | some x => exact ⟨x, rfl, by simpa using h⟩

/-- **WHAT IS ASKED OF AN OPERATION THAT READS SUFFICES**, in whatever world agrees -/
theorem rdA_sound {evA : Operand → AV} {evV : Operand → Value} {o : Op} {ty : TypeId} (hs : St Γ ρ T w) (he : ∀ x, Rel Γ ρ (evA x) (evV x)) (h : rdA P evA o ty T K) :
    floatV P evV o ty (Agr Γ ρ T w) (Lft Γ ρ K) := by
  unfold floatV
  unfold rdA at h
  split at h
  · exact ⟨_, he _, h⟩
  · exact ⟨_, he _, h⟩
  · rename_i c a b
    unfold bpA at h
    split at h
    · rename_i v hv
      have := he c
      rw [hv] at this
      have := this.p_inv
      simp only [valV]
      rw [this]
      exact h.mono (fun h => ⟨_, he _, h⟩) (fun h => ⟨_, he _, h⟩)
    · exact h.elim
  · exact loadA_sound hs (he _) h
  · rename_i x
    have hx := he x
    unfold nilA at h
    simp only [valV]
    generalize evV x = vx at hx
    split at h
    · rename_i e; rw [e] at hx h; cases hx with | ptr hx hb => exact ⟨rfl, _, .ptr hx hb, h⟩
    · rename_i e; rw [e] at hx h; cases hx with | vp hb hc hr => exact ⟨rfl, _, .vp hb hc hr, h⟩
    · exact h.elim
  · exact bin2A_sound hs h (he _) (he _)
  · exact unV_mono (isP_elim h (he _)) (fun s => pureK_mono s) pureK_val
  · exact cnvA_sound hs h (he _)
  · exact lokA_sound hs h (he _) (he _)
  · exact fldA_sound h (he _)
  · exact fdA_sound h (he _)
  · exact idxA_sound hs h (he _) (he _)
  · exact ieA_sound h (he _) (he _)
  · rename_i t x lo hi mx
    refine slcA_sound h hs (he _) ?_ ?_ ?_ ?_ ?_
    · intro a ha; obtain ⟨y, rfl, rfl⟩ := getO_map a ha; exact ⟨_, rfl, he _⟩
    · intro e; cases lo <;> first | rfl | cases e
    · intro a ha; obtain ⟨y, rfl, rfl⟩ := getO_map a ha; exact ⟨_, rfl, he _⟩
    · intro e; cases hi <;> first | rfl | cases e
    · intro e; cases mx <;> first | rfl | cases e
  · exact exA_sound h (he _)
  · rename_i f first cap
    split at h
    · rename_i h0
      split at h
      · refine ⟨_, ?_, h⟩
        have e1 : first.map evV = #[] := by rw [← Array.size_eq_zero_iff] at *; simpa using h0
        have e2 : cap.map evV = (cap.toList.map evV).toArray := by rw [← Array.toList_map]
        rw [e1, e2]
        refine .fn (by simp) fun k h1 h2 => ?_
        simpa using he _
      · exact h.elim
    · exact h.elim
  · exact mkiV_elim (mkiV_x h) fun h => ⟨_, .ic (he _), h⟩
  · rename_i args ts
    split at h
    · rename_i x hx
      split at h
      · exact h.elim
      · rename_i hts
        simp only [valV, builtinV, if_neg hts, hx, List.map_cons, List.map_nil]
        exact lnA_sound hs hts h (he _)
    · exact h.elim
  · rename_i args ts
    split at h
    · rename_i x y hx
      simp only [valV, builtinV, hx, List.map_cons, List.map_nil]
      exact pureK_mono _ (isP_elim (isP_elim h (he _)) (he _))
    · exact h.elim
  · rename_i args ts
    split at h
    · rename_i x y hx
      simp only [valV, builtinV, hx, List.map_cons, List.map_nil]
      exact pureK_mono _ (isP_elim (isP_elim h (he _)) (he _))
    · exact h.elim
  · exact h.elim

/-! ### From any world of a kind to one world -/
theorem lenV_mono {d : TypeDesc} {ts : Array TypeId} {xs : List Value} {ty : TypeId} {F F' : Sem Value → Prop} {K K' : Value → Prop} (h : lenV P d ts xs ty F K) (hf : ∀ s, F s → F' s) (hk : ∀ v, K v → K' v) : lenV P d ts xs ty F' K' := by
  unfold lenV at h ⊢
  split <;> simp only at h <;> first | exact hk _ h | (split at h <;> first | (exfalso; simp_all; done) | exact hf _ h) | exact hf _ h
theorem ptrV_mono {v : Value} {K K' : Option Addr → Prop} (h : ptrV v K) (hk : ∀ p, K p → K' p) : ptrV v K' := by cases v <;> first | exact h.elim | exact hk _ h
theorem slV_mono {sz : Nat} {x i : Value} {F F' : Prop} {K K' : Value → Prop} (h : slV sz x i F K) (hf : F → F') (hk : ∀ v, K v → K' v) : slV sz x i F' K' := by
  cases x <;> try exact hf h
  cases i <;> try exact hf h
  simp only [slV] at h ⊢
  split at h
  · exact h.elim
  · rename_i hz; rw [if_neg hz]; exact ⟨h.1, hk _ h.2⟩
theorem extV_mono {x : Value} {i : Nat} {K K' : Value → Prop} (h : extV x i K) (hk : ∀ v, K v → K' v) : extV x i K' := by
  unfold extV at h ⊢
  split
  · simp only at h; unfold extO at h ⊢; split <;> simp_all
  · split at h <;> simp_all
theorem valV_mono {evV : Operand → Value} {o : Op} {ty : TypeId} {G G' : Value → List Value → Prop} {F F' : Sem Value → Prop} {K K' : Value → Prop} (h : valV P evV o ty G F K) (hg : ∀ f a, G f a → G' f a) (hf : ∀ s, F s → F' s) (hk : ∀ v, K v → K' v) : valV P evV o ty G' F' K' := by
  cases o <;> simp only [valV] at h ⊢ <;> first
    | exact hk _ h
    | exact hf _ h
    | exact CondP.mono h (hk _) (hk _)
    | exact ptrV_mono h fun p hp => hf _ hp
    | exact ptrV_mono h fun p hp => ⟨hp.1, hk _ hp.2⟩
    | exact binV_mono h hf hk
    | exact unV_mono h hf hk
    | exact convV_mono h hf hk
    | exact extV_mono h hk
    | skip
  case fieldAddr s x f =>
    refine ptrV_mono h fun p hp => ?_
    cases ho : tfo P s f with
    | none => rw [ho] at hp; exact hp.elim
    | some off => rw [ho] at hp; exact ⟨hp.1, hk _ hp.2⟩
  case indexAddr t x i =>
    cases hd : tk P t <;> rw [hd] at h <;> first | exact hf _ h | exact slV_mono h (hf _) hk
  case makeInterface t x => cases hd : tk P t <;> rw [hd] at h <;> first | exact h.elim | exact hk _ h
  case call c =>
    obtain ⟨callee, args, ts⟩ := c
    cases callee with
    | builtin b =>
      cases b <;> simp only [builtinV] at h ⊢ <;> first
        | exact h.elim
        | exact hf _ h
        | (split
           · simp_all
           · rename_i hts; rw [if_neg hts] at h; exact lenV_mono h hf hk)
    | value f => exact hg _ _ h
    | invoke r m => exact h.elim
  all_goals exact h.elim
theorem floatV_opV {evV : Operand → Value} {o : Op} {ty : TypeId} {K : Value → Prop} (h : floatV P evV o ty I K) (hI : I w) : opV P evV o ty w fun v w' => K v ∧ w' = w :=
  valV_mono h (fun _ _ h => h.elim) (fun s ⟨v, h1, h2⟩ => ⟨v, w, h1 w hI, h2, rfl⟩) (fun v h => ⟨h, rfl⟩)
end
end Go.E

set_option linter.unusedSimpArgs false
set_option linter.unusedVariables false
set_option linter.unusedSectionVars false
namespace Go.E

/-- what is handed on behind a step -/
def Post (Γ : Heap) (ρ : List BI) (T : Tbl) (w : World) (K : AV → Tbl → Eff → Prop) : Value → World → Prop := fun v w' =>
  ∃ (Γ' : Heap) (ρ' : List BI) (T' : Tbl) (es : Eff) (a : AV), St Γ' ρ' T' w' ∧ Ext Γ ρ T w Γ' ρ' T' w' es ∧ Rel Γ' ρ' a v ∧ K a T' es

/-- the cells of a value, where they are known -/
def AV.known : AV → Option (List AV)
  | .p v => some (v.cells.toList.map .p)
  | .ag cs => some cs
  | .any => none
  | .tu _ => none
  | a => some [a]
def wrA (cs : List AV) (k : Nat) : List AV → List AV
  | [v] => cs.set k v
  | vs => cs.take k ++ vs ++ cs.drop (k + vs.length)
theorem wrA_eq {cs : List AV} {k : Nat} {vs : List AV} (h : k + vs.length ≤ cs.length) : wrA cs k vs = cs.take k ++ vs ++ cs.drop (k + vs.length) := by
  unfold wrA
  split
  · rw [List.set_eq_take_append_cons_drop, if_pos (by simp at h; omega)]; simp
  · rfl
theorem wrA_all {cs vs : List AV} (h : vs.length = cs.length) : wrA cs 0 vs = vs := by
  rw [wrA_eq (by omega)]; simp [h]
def ones (cs : List AV) : Bool := cs.all AV.one
def lim (P : Program) (E : TypeId) (n : Nat) : Prop := n * tby P E ≤ 140737488355328 ∧ n ≤ 140737488355328

/-- what the package-level variables are -/
def GOK (G : Nat → AV) (Γ : Heap) : Prop := ∀ g : Nat, Rel Γ [] (G g) (.pointer (some ⟨g, 0, none⟩))
/-- a function of the program, called -/
def CallA (P : Program) (G : Nat → AV) (f : FuncId) (args : List AV) (T : Tbl) (K : AV → Tbl → Eff → Prop) (_ : Tag K := .mk) : Prop :=
  ∀ (Γ : Heap) (ρ : List BI) (w : World) (vs : List Value), GOK G Γ → St Γ ρ T w → RelL Γ ρ args vs → Ret P f vs.toArray w (Post Γ ρ T w K)
def ExtA (P : Program) (G : Nat → AV) (f : FuncId) (args : List AV) (T : Tbl) (K : AV → Tbl → Eff → Prop) (_ : Tag K := .mk) : Prop :=
  ∀ (Γ : Heap) (ρ : List BI) (w : World) (vs : List Value), GOK G Γ → St Γ ρ T w → RelL Γ ρ args vs → RunV P (do match ← callFunc f vs.toArray with | .value v => pure v | _ => stuck "") w (Post Γ ρ T w K)
/-- an operation that is run as it is -/
def RunA (P : Program) (s : List Value → Sem Value) (args : List AV) (T : Tbl) (K : AV → Tbl → Eff → Prop) (_ : Tag K := .mk) : Prop :=
  ∀ (Γ : Heap) (ρ : List BI) (w : World) (vs : List Value), St Γ ρ T w → RelL Γ ρ args vs → RunV P (s vs) w (Post Γ ρ T w K)
def callF (e : Bool) (P : Program) (G : Nat → AV) (g : FuncId) (args : List AV) (T : Tbl) (K : AV → Tbl → Eff → Prop) (_ : Tag K := .mk) : Prop := match e with
  | true => CallA P G g args T K
  | false => ExtA P G g args T K
/-- a round of a loop over a function, asked for by its iterator -/
def YldA (P : Program) (G : Nat → AV) (l : Nat) (args : List AV) (T : Tbl) (K : AV → Tbl → Eff → Prop) (_ : Tag K := .mk) : Prop :=
  ∀ (Γ : Heap) (ρ : List BI) (w : World) (vs : List Value), GOK G Γ → St Γ ρ T w → RelL Γ ρ args vs → Yld P l vs.toArray w (Post Γ ρ T w K)
/-- the same, by the place of its record -/
def YldI (P : Program) (G : Nat → AV) (i : Nat) (args : List AV) (T : Tbl) (K : AV → Tbl → Eff → Prop) (_ : Tag K := .mk) : Prop :=
  ∀ (Γ : Heap) (ρ : List BI) (w : World) (vs : List Value) (x : BI) (b : Nat), GOK G Γ → St Γ ρ T w → RelL Γ ρ args vs → ρ[i]? = some x → x.blk = some b → Yld P b vs.toArray w (Post Γ ρ T w K)
def callA (P : Program) (G : Nat → AV) (f : AV) (args : List AV) (T : Tbl) (K : AV → Tbl → Eff → Prop) (_ : Tag K := .mk) : Prop := match f with
  | .p (.func (.func g) ⟨[]⟩ ⟨[]⟩) => callF (entered P g) P G g args T K
  | .fn g cap => callF (entered P g) P G g (args ++ cap) T K
  | .p (.func (.yield l) ⟨[]⟩ ⟨[]⟩) => YldA P G l args T K
  | .yl i => YldI P G i args T K
  | _ => False

def stoA (P : Program) (t : TypeId) (i off : Nat) (vs : List AV) (o : AObj) (T : Tbl) (K : AV → Tbl → Eff → Prop) (_ : Tag K := .mk) : Prop := match o with
  | .cells E cs => (tsz P t = vs.length ∧ 0 < vs.length ∧ off + vs.length ≤ cs.length ∧ ones vs = true) ∧ K (.p undef) (T.set i (.cells E (wrA cs off vs))) [(i, false)]
  | .buf E sz cs => (tsz P t = vs.length ∧ 0 < vs.length ∧ off + vs.length ≤ cs.length ∧ ones vs = true) ∧ K (.p undef) (T.set i (.buf E sz (wrA cs off vs))) [(i, false)]
  | _ => False
def storeA (P : Program) (t : TypeId) (a x : AV) (T : Tbl) (K : AV → Tbl → Eff → Prop) (_ : Tag K := .mk) : Prop := match a with
  | .ptr i off => getO x.known fun vs => getO T[i]? fun o => stoA P t i off vs o T K
  | _ => False
def appC (P : Program) (E : TypeId) (i off n : Nat) (ys : List AV) (m : Nat) (o : AObj) (T : Tbl) (K : AV → Tbl → Eff → Prop) (_ : Tag K := .mk) : Prop := match o with
  | .buf E' sz cs => (E' = E ∧ sz = tsz P E ∧ off = 0 ∧ cs.length = n * sz ∧ lim P E (n + m)) ∧ K (.sl i 0 (n + m)) ((T.map (AObj.wo (· == i))).set i (.buf E sz ((cs ++ ys).map (AV.wo (· == i))))) [(i, true)]
  | _ => False
def appB (P : Program) (E : TypeId) (a : AV) (ys : List AV) (m : Nat) (T : Tbl) (K : AV → Tbl → Eff → Prop) (_ : Tag K := .mk) : Prop := match a with
  | .p (.slice none 0 0) => lim P E m ∧ K (.sl T.length 0 m) (T ++ [.buf E (tsz P E) ys]) []
  | .sl i off n => getO T[i]? fun o => appC P E i off n ys m o T K
  | _ => False
def appA (P : Program) (d : TypeDesc) (a y : AV) (T : Tbl) (K : AV → Tbl → Eff → Prop) (_ : Tag K := .mk) : Prop := match d with
  | .slice E => if tsz P E = 0 then False else getO (tzr P E) fun z => z.cells.size = tsz P E ∧ srcA (tsz P E) y T fun ys m => ones ys = true ∧ appB P E a ys m T K
  | _ => False
/-- the parts of a literal, laid over zeros -/
def fillA (sz : Nat) : List AV → List (Nat × AV) → Option (List AV)
  | cs, [] => some cs
  | cs, (i, a) :: r => match a.known with
    | none => none
    | some vs => if vs.length = sz ∧ i * sz + vs.length ≤ cs.length then fillA sz (wrA cs (i * sz) vs) r else none
def fillB (sz : Nat) (cs : List AV) (i : Nat) (o : Option (List AV)) (r : List (Nat × AV)) : Option (List AV) := match o with
  | none => none
  | some vs => if vs.length = sz ∧ i * sz + vs.length ≤ cs.length then fillA sz (wrA cs (i * sz) vs) r else none
/-- the fields of a literal, laid over zeros -/
def fillS (P : Program) (t : TypeId) : List AV → List (Nat × AV) → Option (List AV)
  | cs, [] => some cs
  | cs, (i, a) :: r => match tff P t i, a.known with
    | some (off, ft), some vs => if vs.length = tsz P ft ∧ off + vs.length ≤ cs.length then fillS P t (wrA cs off vs) r else none
    | _, _ => none
def fillT (P : Program) (t : TypeId) (cs : List AV) (f : Option (Nat × TypeId)) (o : Option (List AV)) (r : List (Nat × AV)) : Option (List AV) := match f, o with
  | some (off, ft), some vs => if vs.length = tsz P ft ∧ off + vs.length ≤ cs.length then fillS P t (wrA cs off vs) r else none
  | _, _ => none
def blsA (P : Program) (d : TypeDesc) (k : Nat) (parts : List (Nat × AV)) (T : Tbl) (K : AV → Tbl → Eff → Prop) (_ : Tag K := .mk) : Prop := match d with
  | .slice e => if tsz P e = 0 then False else getO (tzr P e) fun z => (z.cells.size = tsz P e ∧ k * tsz P e ≤ 16777216) ∧ getO (fillA (tsz P e) (List.replicate k (z.cells.toList.map AV.p)).flatten parts) fun cs => K (.sl T.length 0 k) (T ++ [.buf e (tsz P e) cs]) []
  | _ => False
/-- is it a struct, of fields of some cells each? -/
def tst (P : Program) (t : TypeId) : Bool := match tk P t with
  | .struct fs => fs.all fun f => tsz P f.type != 0
  | _ => false
def bldB (P : Program) (d : TypeDesc) (cs : List AV) (parts : List (Nat × AV)) (K : AV → Prop) (_ : Tag K := .mk) : Prop := match d with
  | .array _ e => if tsz P e = 0 then False else getO (fillA (tsz P e) cs parts) fun cs => K (.ag cs)
  | _ => False
def bldC (P : Program) (t : TypeId) (b : Bool) (cs : List AV) (parts : List (Nat × AV)) (K : AV → Prop) (_ : Tag K := .mk) : Prop := match b with
  | true => getO (fillS P t cs parts) fun cs => K (.ag cs)
  | false => bldB P (tk P t) cs parts K
def bldA (P : Program) (t : TypeId) (parts : List (Nat × AV)) (K : AV → Prop) (_ : Tag K := .mk) : Prop := getO (tzr P t) fun z => bldC P t (tst P t) (z.cells.toList.map AV.p) parts K
def mksA (P : Program) (d : TypeDesc) (l c : AV) (T : Tbl) (K : AV → Tbl → Eff → Prop) (_ : Tag K := .mk) : Prop := match d, l, c with
  | .slice e, .p (.int _ x), .p (.int _ y) => if tsz P e = 0 then False else getO (tzr P e) fun z => (0 ≤ x ∧ x ≤ y ∧ z.cells.size = tsz P e ∧ lim P e y.toNat) ∧ K (.sl T.length 0 x.toNat) (T ++ [.buf e (tsz P e) (List.replicate x.toNat (z.cells.toList.map AV.p)).flatten]) []
  | _, _, _ => False
def cpyB (P : Program) (i off n : Nat) (ys : List AV) (m : Nat) (o : AObj) (T : Tbl) (K : AV → Tbl → Eff → Prop) (_ : Tag K := .mk) : Prop := match o with
  | .cells E cs => off + (ys.take (min m n)).length ≤ cs.length ∧ K (.p (.int .i64 (min m n : Nat))) (T.set i (.cells E (wrA cs off (ys.take (min m n))))) [(i, false)]
  | .buf E sz cs => off + (ys.take (min m n)).length ≤ cs.length ∧ K (.p (.int .i64 (min m n : Nat))) (T.set i (.buf E sz (wrA cs off (ys.take (min m n))))) [(i, false)]
  | _ => False
def cpyE (P : Program) (d : TypeDesc) (a y : AV) (T : Tbl) (K : AV → Tbl → Eff → Prop) (_ : Tag K := .mk) : Prop := match d, a with
  | .slice E, .sl i off n => tsz P E = 1 ∧ srcA 1 y T fun ys m => (ones ys = true ∧ ys.length = m ∧ 0 < m ∧ 0 < n) ∧ getO T[i]? fun o => cpyB P i off n ys m o T K
  | _, _ => False
def cpyA (P : Program) (ts : List TypeId) (a y : AV) (T : Tbl) (K : AV → Tbl → Eff → Prop) (_ : Tag K := .mk) : Prop := match ts with
  | [t, _] => cpyE P (tk P t) a y T K
  | _ => False

/-! ### Maps that are written -/
open Classical in
noncomputable def mset (es : List (Value × AV)) (k : Value) (v : AV) : List (Value × AV) := match mfind es k with
  | some _ => es.map fun e => if e.1 = k then (k, v) else e
  | none => es ++ [(k, v)]
open Classical in
noncomputable def mdel (es : List (Value × AV)) (k : Value) : List (Value × AV) := es.filter fun e => !decide (e.1 = k)
def mupC (P : Program) (kt : TypeId) (i : Nat) (k : Value) (x : AV) (o : AObj) (T : Tbl) (K : AV → Tbl → Eff → Prop) (_ : Tag K := .mk) : Prop := match o with
  | .map es => mapKO P kt es k ∧ K (.p undef) (T.set i (.map (mset es k x))) [(i, false)]
  | _ => False
def mupB (P : Program) (kt : TypeId) (a : AV) (k : Value) (x : AV) (T : Tbl) (K : AV → Tbl → Eff → Prop) (_ : Tag K := .mk) : Prop := match a with
  | .mp i => getO T[i]? fun o => mupC P kt i k x o T K
  | _ => False
def mupA (P : Program) (d : TypeDesc) (a k x : AV) (T : Tbl) (K : AV → Tbl → Eff → Prop) (_ : Tag K := .mk) : Prop := match d with
  | .map kt _ => getO k.flat fun k => mupB P kt a k x T K
  | _ => False
def mdlC (P : Program) (kt : TypeId) (i : Nat) (k : Value) (o : AObj) (T : Tbl) (K : AV → Tbl → Eff → Prop) (_ : Tag K := .mk) : Prop := match o with
  | .map es => mapKO P kt es k ∧ K (.p (.tuple #[])) (T.set i (.map (mdel es k))) [(i, false)]
  | _ => False
def mdlB (P : Program) (kt : TypeId) (a : AV) (k : Value) (T : Tbl) (K : AV → Tbl → Eff → Prop) (_ : Tag K := .mk) : Prop := match a with
  | .mp i => getO T[i]? fun o => mdlC P kt i k o T K
  | _ => False
def mdlA (P : Program) (d : TypeDesc) (a k : AV) (T : Tbl) (K : AV → Tbl → Eff → Prop) (_ : Tag K := .mk) : Prop := match d with
  | .map kt _ => getO k.flat fun k => mdlB P kt a k T K
  | _ => False
def mkmA (P : Program) (d : TypeDesc) (r : Option AV) (T : Tbl) (K : AV → Tbl → Eff → Prop) (_ : Tag K := .mk) : Prop := match r, d with
  | none, _ => K (.mp T.length) (T ++ [.map []]) []
  | some (.p (.int _ _)), .map _ _ => K (.mp T.length) (T ++ [.map []]) []
  | _, _ => False

/-- a conversion; of a string to bytes: they last -/
def cvoA (P : Program) (d e : TypeDesc) (s t : TypeId) (a : AV) (T : Tbl) (K : AV → Tbl → Eff → Prop) (_ : Tag K := .mk) : Prop := match d, e with
  | .string, .slice el => tk P el = .int .u8 ∧ isP a fun v => (match v with
    | .string x => K (.vs (x.data.toList.map fun b => .p (.int .u8 (b.toNat : Int))) x.size) T []
    | _ => False)
  | d, e => cnvA P d e s t a T fun a => K a T []

/-- one operation -/
def opA (P : Program) (G : Nat → AV) (ρ : Operand → AV) (o : Op) (ty : TypeId) (T : Tbl) (K : AV → Tbl → Eff → Prop) (_ : Tag K := .mk) : Prop :=
  match o with
  | .alloc e => getO (tzr P e) fun z => K (.ptr T.length 0) (T ++ [.cells e (z.cells.toList.map .p)]) []
  | .box e x => getO (ρ x).known fun cs => K (.ptr T.length 0) (T ++ [.cells e cs]) []
  | .store t a x => storeA P t (ρ a) (ρ x) T K
  | .call ⟨.value f, args, _⟩ => callA P G (ρ f) (args.toList.map ρ) T K
  | .call ⟨.builtin .append, args, ts⟩ => (match args.toList, ts.toList with
    | [x, y], [t, t'] => t = t' ∧ appA P (tk P t) (ρ x) (ρ y) T K
    | _, _ => False)
  | .buildSlice e k ps => blsA P (tk P e) k (ps.toList.map fun p => (p.1, ρ p.2)) T K
  | .build e ps => bldA P e (ps.toList.map fun p => (p.1, ρ p.2)) fun a => K a T []
  | .makeSlice t l c => mksA P (tk P t) (ρ l) (ρ c) T K
  | .call ⟨.builtin .copy, args, ts⟩ => (match args.toList with
    | [x, y] => cpyA P ts.toList (ρ x) (ρ y) T K
    | _ => False)
  | .convert s t x => cvoA P (tk P s) (tk P t) s t (ρ x) T K
  | .makeMap t r => mkmA P (tk P t) (r.map ρ) T K
  | .mapUpdate t m k x => mupA P (tk P t) (ρ m) (ρ k) (ρ x) T K
  | .insert t m k x => mupA P (tk P t) (ρ m) (ρ k) (ρ x) T K
  | .call ⟨.builtin .delete, args, ts⟩ => (match args.toList, ts.toList with
    | [x, y], t :: _ => mdlA P (tk P t) (ρ x) (ρ y) T K
    | _, _ => False)
  | o => rdA P ρ o ty T fun a => K a T []

section
variable {P : Program} {Γ Γ' : Heap} {ρ ρ' : List BI} {T : Tbl} {w w' : World} {a b : AV} {u v : Value} {K : AV → Tbl → Eff → Prop} {cs : List AV}

theorem Rel.known (h : Rel Γ ρ a v) (hk : a.known = some cs) : RelL Γ ρ cs v.cells.toList := by
  have one : ∀ {a : AV} {v : Value}, Rel Γ ρ a v → v.cells = #[v] → RelL Γ ρ [a] v.cells.toList := fun h e => by rw [e]; exact .cons h .nil
  cases h <;> simp only [AV.known] at hk <;> first
    | (cases hk; exact .ps _)
    | (cases hk; exact one (by first | exact .vs0 ‹_› ‹_› | exact .vs ‹_› ‹_› ‹_› ‹_› | exact .vp ‹_› ‹_› ‹_› | (constructor <;> assumption)) rfl)
    | (cases hk; done)
    | skip
  · cases hk; exact RelL.of_all ‹_› ‹_›
theorem Rel.one (h : Rel Γ ρ a v) (hk : a.one = true) : v.oneCell' = true := by
  cases h <;> first | rfl | exact hk | cases hk
theorem RelL.ones {vs : List Value} (h : RelL Γ ρ cs vs) (hk : ones cs = true) : ∀ u ∈ vs, u.oneCell' = true := by
  intro u hu
  obtain ⟨k, hk1, rfl⟩ := List.mem_iff_getElem.1 hu
  have h2 : k < cs.length := by rw [h.1]; exact hk1
  exact (h.2 k cs[k] vs[k] (by simp [h2]) (by simp [hk1])).one (List.all_eq_true.1 hk _ (List.getElem_mem _))

theorem alloc_of (hs : St Γ ρ T w) (o : Obj) : Γ.of (w.alloc o) := by
  refine ⟨fun b ob hb => ?_, hs.of.2⟩
  rw [heap_alloc, if_neg (by have := hs.lt hb; omega)]; exact hs.of.1 _ _ hb
theorem alloc_old (o : Obj) : ∀ b, b < w.heap.size → (w.alloc o).heap[b]? = w.heap[b]? := fun b hb => by rw [heap_alloc, if_neg (by omega)]
/-- a new block of cells -/
theorem St.alloc (hs : St Γ ρ T w) (E : TypeId) {vs : List Value} (hv : RelL Γ ρ cs vs) :
    St Γ (ρ ++ [⟨some w.heap.size, 0, false⟩]) (T ++ [.cells E cs]) (w.alloc (.cells vs.toArray E)) ∧ Ext Γ ρ T w Γ (ρ ++ [⟨some w.heap.size, 0, false⟩]) (T ++ [.cells E cs]) (w.alloc (.cells vs.toArray E)) [] := by
  refine hs.push _ _ (alloc_of hs _) (alloc_old _) ⟨rfl, _, vs, rfl, by rw [heap_alloc, if_pos rfl], hv.mono (Heap.le_refl _) (snoc_mono _ _)⟩ fun b hb => ?_
  cases hb; exact Nat.le_refl _
theorem ptr_new (hs : St Γ ρ T w) (x : BI) {b : Nat} (hb : x.blk = some b) (off : Nat) : Rel Γ (ρ ++ [x]) (.ptr T.length off) (.pointer (some ⟨b, off, none⟩)) := .ptr (x := x) (by rw [← hs.len]; simp) hb
theorem sl_new (hs : St Γ ρ T w) (x : BI) (n : Nat) (hn : n ≤ x.cap) : Rel Γ (ρ ++ [x]) (.sl T.length 0 n) (.slice (x.blk.map fun b => ⟨b, 0, none⟩) n x.cap) := .sl (x := x) (by rw [← hs.len]; simp) (fun _ => rfl) hn fun _ _ => rfl

theorem wr_rel {vs : List Value} {ds : List AV} {us : List Value} (h : RelL Γ ρ cs vs) (h' : RelL Γ ρ ds us) (k : Nat) (hk : k + ds.length ≤ cs.length) : RelL Γ ρ (wrA cs k ds) (wr vs k us) := by
  rw [wrA_eq hk]
  unfold wr
  rw [← h'.1]
  exact ((h.take k).append h').append (h.drop _)

theorem wr_append {A B us : List Value} {off : Nat} (h : off + us.length ≤ A.length) : wr (A ++ B) off us = wr A off us ++ B := by
  unfold wr
  rw [List.take_append_of_le_length (by omega), List.drop_append_of_le_length h]
  simp
theorem wr_length {A us : List Value} {off : Nat} (h : off + us.length ≤ A.length) : (wr A off us).length = A.length := by simp [wr]; omega
theorem wr_take {l us : List Value} {off m : Nat} (h : off + us.length ≤ m) (hm : m ≤ l.length) : wr (l.take m) off us = (wr l off us).take m := by
  have h1 : (l.take m).length = m := by simp; omega
  have e : wr l off us = wr (l.take m) off us ++ l.drop m := by
    have := wr_append (A := l.take m) (B := l.drop m) (us := us) (off := off) (by omega)
    rwa [List.take_append_drop] at this
  exact ((congrArg (List.take m) e).trans (by rw [List.take_append_of_le_length (by rw [wr_length (by omega)]; omega), List.take_of_length_le (by rw [wr_length (by omega)]; omega)])).symm
theorem wrA_length {A us : List AV} {off : Nat} (h : off + us.length ≤ A.length) : (wrA A off us).length = A.length := by rw [wrA_eq h]; simp; omega

theorem storeA_sound {t : TypeId} (hs : St Γ ρ T w) (hx : Rel Γ ρ a u) (hy : Rel Γ ρ b v) (h : storeA P t a b T K) : storeV t u v fun s => RunV P s w (Post Γ ρ T w K) := by
  unfold storeA at h
  split at h
  · rename_i i off
    obtain ⟨ds, hd, h⟩ := getO_elim h
    obtain ⟨o, hT, h⟩ := getO_elim h
    have hus := hy.known hd
    cases hx with
    | @ptr _ _ _ b x hx hb =>
    have run : ∀ (E : TypeId) (vs : List Value), w.heap[b]? = some (.cells vs.toArray E (0, 0)) → tsz P t = ds.length → 0 < ds.length → off + ds.length ≤ vs.length → ones ds = true →
        ∃ w', (do Instr.storeAt t (.pointer (some ⟨b, off, none⟩)) v; pure undef : Sem Value).run P w = .ok undef w' ∧ w'.heap[b]? = some (.cells (wr vs off v.cells.toList).toArray E (0, 0)) ∧ (∀ k, k ≠ b → w'.heap[k]? = w.heap[k]?) ∧ w'.os = w.os ∧ w'.output = w.output := by
      intro E vs hw h1 h2 h3 h4
      have hl : ds.length = v.cells.toList.length := hus.1
      obtain ⟨inf, hi, hsz, _⟩ := info_of_tsz (P := P) (t := t) (by omega)
      have hst := run_storeCells_at P b off E v.cells.toList 0 vs.toArray w hw (by simp at hl ⊢; omega) (hus.ones h4)
      refine ⟨_, ?_, setRow_heap w b vs.toArray _ E _ hw, fun k' hk' => setRow_other w b k' _ hk', rfl, rfl⟩
      have h5 : ¬ v.cells.size ≠ inf.size := by simp at hl; omega
      simp only [Instr.storeAt, Instr.sureAddr, storeVar, Sem.run_bind, Sem.run_pure, Result.andThen_ok, sizeOf, typeInfo, run_program, hi, h5, if_false]
      simp only [Nat.add_zero] at hst
      rw [hst]
      simp [wr]
    have fin : ∀ (E : TypeId) (vs : List Value) (o' : AObj), o.live = true → o'.live = true → w.heap[b]? = some (.cells vs.toArray E (0, 0)) → tsz P t = ds.length → 0 < ds.length → off + ds.length ≤ vs.length → ones ds = true → K (.p undef) (T.set i o') [(i, false)] →
        (∀ w', w'.heap[b]? = some (.cells (wr vs off v.cells.toList).toArray E (0, 0)) → ObjRel Γ ρ w' x o') → storeV t (.pointer (some ⟨b, off, none⟩)) v fun s => RunV P s w (Post Γ ρ T w K) := by
      intro E vs o' hl hl' hw h1 h2 h3 h4 hk hr
      obtain ⟨w', g1, g2, g3, g4⟩ := run E vs hw h1 h2 h3 h4
      obtain ⟨k1, k2⟩ := hs.write hT hx hl o' hl' (w' := w') (fun c hc => g3 c fun e => hc (by rw [e]; exact hb)) g4 (hr w' g2)
      exact ⟨_, w', g1, Γ, ρ, _, _, _, k1, k2, .p _, hk⟩
    have ho := hs.obj i o x hT hx
    cases o with
    | cells E cs =>
      obtain ⟨⟨h1, h2, h3, h4⟩, hk⟩ := h
      obtain ⟨h0, b', vs, e1, e2, e3⟩ := ho
      rw [hb] at e1; cases e1
      refine fin E vs _ rfl rfl e2 h1 h2 (by rw [← e3.1]; exact h3) h4 hk fun w' hw' => ⟨h0, b, _, hb, hw', wr_rel e3 hus off h3⟩
    | buf E sz ls =>
      obtain ⟨⟨h1, h2, h3, h4⟩, hk⟩ := h
      obtain ⟨h0, n, e1, e2, ⟨e3, rfl, e5⟩ | ⟨b', cur, e3, e4, e5, e6, e7⟩⟩ := ho
      · simp only [List.length_nil] at h3; omega
      rw [hb] at e3; cases e3
      have hle : n * sz ≤ cur.toList.length := by rw [Array.length_toList, e6]; exact Nat.mul_le_mul_right _ e2
      have hus1 : v.cells.toList.length = ds.length := hus.1.symm
      have e9 : off + ds.length ≤ cur.toList.length := by omega
      refine fin E cur.toList _ rfl rfl (by simpa using e4) h1 h2 e9 h4 hk fun w' hw' => ⟨h0, n, by rw [wrA_length h3]; exact e1, e2, .inr ⟨b, (wr cur.toList off v.cells.toList).toArray, hb, hw', e5, ?_, ?_⟩⟩
      · rw [List.size_toArray, wr_length (by omega), Array.length_toList, e6]
      · have := wr_rel e7 hus off h3
        rwa [wr_take (by omega) hle] at this
    | _ => exact h.elim
  · exact h.elim

theorem srcA_elim {sz : Nat} {K : List AV → Nat → Prop} (h : srcA sz a T K) (hs : St Γ ρ T w) (hr : Rel Γ ρ a v) : ∃ (e : Option Addr) (m d : Nat) (ys : List AV) (us : List Value), v = .slice e m d ∧ RelL Γ ρ ys us ∧ ys.length = m * sz ∧ Rd w e us ∧ K ys m := by
  unfold srcA at h
  split at h
  · rename_i cs n
    obtain ⟨h1, h⟩ := h
    cases hr with
    | @vs0 _ _ _ c ad h0 hc =>
      have h2 : cs = [] := by
        rcases h0 with h0 | h0
        · exact h0
        · subst h0; exact List.eq_nil_of_length_eq_zero (by simpa using h1)
      subst h2
      exact ⟨_, _, _, _, [], rfl, .nil, h1, .inl rfl, h⟩
    | vs hm hb hc hr =>
      obtain ⟨us, h2, h3⟩ := row_rd (ρ := ρ) hb hc hr
      exact ⟨_, _, _, _, us, rfl, h2, h1, h3 w hs.of, h⟩
  · rename_i j off n
    obtain ⟨o, cs, h1, h2, h3, h⟩ := csA_elim h
    cases hr with
    | @sl _ _ _ _ c x ad hx ha hc h0 =>
      obtain ⟨vs, g1, g2, g3⟩ := hs.cells h1 hx h2
      refine ⟨_, _, _, _, (vs.drop off).take (n * sz), rfl, (g1.drop off).take _, by simp; omega, ?_, h⟩
      by_cases hn : n = 0
      · subst hn; exact .inl (by simp)
      · rw [ha (.inl (by omega))]
        have := ((g3 w (agr_self hs)).drop off).take (n * sz)
        have e : sh (x.blk.map fun b => (⟨b, 0, none⟩ : Addr)) off = x.blk.map fun b => (⟨b, off, none⟩ : Addr) := by cases x.blk <;> simp [sh, add_plain]
        rwa [e] at this
  · have := hr.p_inv; subst this
    exact ⟨_, _, _, [], [], rfl, .nil, by simp, .inl rfl, h⟩
  · exact h.elim

/-- the frame of a run on one resource -/
def frameF (Γ0 : Heap) : Fact := ⟨fun Γ => Heap.le Γ0 Γ, fun _ _ h h' => Heap.le_trans h' h⟩
def without (w : World) (c : Option Nat) : Heap := ⟨fun b => if c = some b then none else w.heap[b]?, w.os, w.output⟩
theorem ctx_one {r : Res} {ch : Chunk} (c : Option Nat) (hr : r ch) (hch : ch.map (·.1) = c.toList) (hw : ∀ p ∈ ch, w.heap[p.1]? = some p.2) : Ctx w [r] [frameF (without w c)] := by
  refine ⟨without w c, [ch], ⟨fun b o hb => ?_, rfl, rfl⟩, ⟨hr, trivial⟩, fun p hp => ?_, ?_, fun φ hφ => ?_⟩
  · simp only [without] at hb
    split at hb
    · cases hb
    · exact hb
  · simp at hp
    refine ⟨hw p hp, ?_⟩
    have : p.1 ∈ ch.map (·.1) := List.mem_map_of_mem hp
    rw [hch] at this
    simp only [without]
    rw [if_pos (by simpa using this)]
  · simp only [List.flatten_cons, List.flatten_nil, List.append_nil, hch]
    cases c <;> simp
  · simp only [List.mem_singleton] at hφ
    subst hφ
    exact Heap.le_refl _
theorem ctx_one_out {r : Res} {c : Option Nat} (h : Ctx w' [r] [frameF (without w c)]) : ∃ ch, r ch ∧ (∀ p ∈ ch, w'.heap[p.1]? = some p.2) ∧ (∀ p ∈ ch, c = some p.1 ∨ w.heap.size ≤ p.1) ∧ (∀ b, b < w.heap.size → c ≠ some b → w'.heap[b]? = w.heap[b]?) ∧ w'.os = w.os ∧ w'.output = w.output := by
  obtain ⟨Γ, cs, h1, h2, h3, h4, h5⟩ := h
  obtain ⟨ch, cs', rfl, hr, h2'⟩ := h2.cons_inv
  have hf := h5 _ (List.mem_cons_self ..)
  refine ⟨ch, hr, fun p hp => (h3 p (by simp [hp])).1, fun p hp => ?_, fun b hb hc => ?_, h1.2.1.trans hf.2.1, h1.2.2.trans hf.2.2⟩
  · by_cases hc : c = some p.1
    · exact .inl hc
    · refine .inr (Nat.le_of_not_lt fun hlt => ?_)
      have e : (without w c) p.1 = some w.heap[p.1] := by simp [without, hc, hlt]
      have := hf.1 _ _ e
      rw [(h3 p (by simp [hp])).2] at this
      cases this
  · have e : (without w c) b = some w.heap[b] := by simp [without, hc, hb]
    rw [h1.1 _ _ (hf.1 _ _ e)]; simp [hb]

theorem opt_addr (o : Option Nat) (off : Nat) : (o.map fun b => (⟨b, off, none⟩ : Addr)).isSome = o.isSome := by cases o <;> rfl

theorem run_app {t ty E : TypeId} {sz n m d : Nat} {x : BI} {e : Option Addr} {us : List Value} {z : Value} (hbuf : ObjRel Γ ρ w x (.buf E sz cs)) (ht : tk P t = .slice E) (hsz : tsz P E = sz) (h0 : 0 < sz) (hz : tzr P E = some z) (hzs : z.cells.size = sz)
    (hcs : cs.length = n * sz) (hr : Rd w e us) (hl : us.length = m * sz) (h1 : ∀ u ∈ us, u.oneCell' = true) (hlim : lim P E (n + m)) :
    ∃ (x' : BI) (vs : List Value) (w' : World), (Builtin.append_ #[t, t] ty #[.slice (x.blk.map fun b => ⟨b, 0, none⟩) n x.cap, .slice e m d]).run P w = .ok (.slice (x'.blk.map fun b => ⟨b, 0, none⟩) (n + m) x'.cap) w' ∧
      RelL Γ ρ cs vs ∧ (∀ (Γ' : Heap) (ρ' : List BI) (ds : List AV), RelL Γ' ρ' ds (vs ++ us) → ds.length = (n + m) * sz → ObjRel Γ' ρ' w' x' (.buf E sz ds)) ∧ (∀ b, x'.blk = some b → x.blk = some b ∨ w.heap.size ≤ b) ∧ n + m ≤ x'.cap ∧
      (∀ b, b < w.heap.size → x.blk ≠ some b → w'.heap[b]? = w.heap[b]?) ∧ w'.os = w.os ∧ w'.output = w.output := by
  obtain ⟨h00, n', e1, e2, e3⟩ := hbuf
  have hn : n' = n := Nat.eq_of_mul_eq_mul_right h0 (by rw [← e1, hcs])
  subst hn
  have hctx : ∃ vs, RelL Γ ρ cs vs ∧ Ctx w [buf E sz (x.blk.map fun b => ⟨b, 0, none⟩) n' x.cap vs] [frameF (without w x.blk)] := by
    rcases e3 with ⟨g1, rfl, g3⟩ | ⟨b, cur, g1, g2, g3, g4, g5⟩
    · have hn0 : n' = 0 := by rw [g3] at e2; omega
      subst hn0
      refine ⟨[], .nil, ctx_one (ch := []) _ ⟨by simp, .inl ⟨by rw [g1]; rfl, rfl, g3, rfl⟩⟩ (by rw [g1]; rfl) (by simp)⟩
    · refine ⟨_, g5, ctx_one (ch := [(b, .cells cur E (0, 0))]) _ ⟨by rw [← g5.1, e1], .inr ⟨b, cur, by rw [g1]; rfl, rfl, e2, g3, g4, rfl⟩⟩ (by rw [g1]; rfl) (by simpa using g2)⟩
  obtain ⟨vs, hvs, hctx⟩ := hctx
  have hm : n' + m ≤ maxLen := Nat.le_trans hlim.2 (by unfold maxLen; omega)
  obtain ⟨a', c', w', hrun, hc'⟩ := run_append (P := P) (ty := ty) hctx ht hsz h0 hz hzs hr hl h1 hlim.1 hm
  obtain ⟨ch, hch, k1, k2, k3, k4⟩ := ctx_one_out hc'
  obtain ⟨q1, ⟨rfl, q2, rfl, rfl⟩ | ⟨g, cur, rfl, rfl, q2, q3, q4, q5⟩⟩ := hch
  · refine ⟨⟨none, 0, true⟩, vs, w', hrun, hvs, fun Γ' ρ' ds hds hdl => ⟨⟨rfl, h0⟩, n' + m, hdl, by simp only; omega, .inl ⟨rfl, ?_, rfl⟩⟩, by simp, by simp only; omega, k3, k4⟩
    exact List.eq_nil_of_length_eq_zero (by rw [hdl, q2]; simp)
  · refine ⟨⟨some g, c', true⟩, vs, w', hrun, hvs, fun Γ' ρ' ds hds hdl => ⟨⟨rfl, h0⟩, n' + m, hdl, q2, .inr ⟨g, cur, rfl, k1 (g, _) (by simp), q3, q4, by rw [q5]; exact hds⟩⟩, fun b hb => ?_, q2, k3, k4⟩
    cases hb
    exact k2 (g, .cells cur E (0, 0)) (List.mem_cons_self ..)

theorem appA_sound {t ty : TypeId} (hs : St Γ ρ T w) (hx : Rel Γ ρ a u) (hy : Rel Γ ρ b v) (h : appA P (tk P t) a b T K) : RunV P (Builtin.append_ #[t, t] ty #[u, v]) w (Post Γ ρ T w K) := by
  generalize hd : tk P t = d at h
  unfold appA at h
  split at h
  · rename_i E
    split at h
    · exact h.elim
    · rename_i hz0
      obtain ⟨z, hz, hzs, h⟩ := getO_elim h
      obtain ⟨e, m, dd, ys, us, rfl, hrel, hyl, hrd, hones, h⟩ := srcA_elim h hs hy
      have hul : us.length = m * tsz P E := by rw [← hrel.1]; exact hyl
      cases a with
      | p v0 =>
        unfold appB at h
        split at h
        · rename_i e0
          injection e0 with e0
          have hu : u = .slice none 0 0 := by rw [hx.p_inv, e0]
          rw [hu]
          obtain ⟨hl, hk⟩ := h
          obtain ⟨x', vs, w', g1, g2, g3, g4, g5, g6, g7⟩ := run_app (P := P) (ty := ty) (d := dd) (x := ⟨none, 0, true⟩) (cs := []) (Γ := Γ) (ρ := ρ) (n := 0) (sz := tsz P E) ⟨⟨rfl, by omega⟩, 0, by simp, by simp, .inl ⟨rfl, rfl, rfl⟩⟩ hd rfl (by omega) hz hzs (by simp) hrd hul (hrel.ones hones) (by simpa using hl)
          rw [Nat.zero_add] at g1 g5
          have hvs := g2.unnil
          subst hvs
          have hof : Γ.of w' := ⟨fun b o hb => by rw [g6 b (hs.lt hb) (by simp)]; exact hs.of.1 _ _ hb, g7.1.trans hs.of.2.1, g7.2.trans hs.of.2.2⟩
          obtain ⟨k1, k2⟩ := hs.push x' (.buf E (tsz P E) ys) hof (fun b hb => g6 b hb (by simp)) (g3 _ _ ys (by simpa using hrel.mono (Heap.le_refl _) (snoc_mono _ _)) (by rw [Nat.zero_add]; exact hyl)) fun b hb => (g4 b hb).resolve_left (by simp)
          exact ⟨_, w', g1, Γ, _, _, _, _, k1, k2, sl_new hs x' m g5, hk⟩
        · rename_i e0; cases e0
        · exact h.elim
      | sl i off n =>
        obtain ⟨o, hT, h⟩ := getO_elim h
        unfold appC at h
        split at h
        · rename_i E' sz cs
          obtain ⟨⟨rfl, rfl, rfl, hcl, hl⟩, hk⟩ := h
          cases hx with
          | @sl _ _ _ _ c x ad hx ha hc h0 =>
            have hor := hs.obj _ _ x hT hx
            rw [ha (.inr rfl), h0 rfl hor.1.1]
            obtain ⟨x', vs, w', g1, g2, g3, g4, g5, g6, g7⟩ := run_app (P := P) (ty := ty) (d := dd) hor hd rfl (by omega) hz hzs hcl hrd hul (hrel.ones hones) hl
            obtain ⟨k1, k2, k3⟩ := hs.move hT hx rfl x' (.buf E' (tsz P E') ((cs ++ ys).map (AV.wo (· == i)))) rfl (w' := w') g6 g7 g4
              (g3 _ _ _ ((g2.append hrel).wo fun j y hj hy => by rw [List.getElem?_set_ne (by rintro rfl; simp at hj)]; exact hy) (by simp [hcl, hyl, Nat.add_mul]))
            refine ⟨_, w', g1, Γ, _, _, _, _, k1, k2, ?_, hk⟩
            refine .sl (x := x') ?_ (fun _ => rfl) g5 fun _ _ => rfl
            have := (List.getElem?_eq_some_iff.1 hx).1
            simp [this]
        · exact h.elim
      | _ => exact h.elim
  · exact h.elim

theorem foldSet (off : Nat) : ∀ (vs : List Value) (j : Nat) (cs : Array Value), off + j + vs.length ≤ cs.size → ((vs.zipIdx j).foldl (fun cs (c, j) => cs.setIfInBounds (off + j) c) cs).toList = wr cs.toList (off + j) vs
  | [], j, cs, h => by simp [wr]
  | v :: vs, j, cs, h => by
    simp only [List.length_cons] at h
    rw [List.zipIdx_cons, List.foldl_cons, foldSet off vs (j + 1) _ (by simp; omega)]
    rw [Array.toList_setIfInBounds]
    unfold wr
    have h1 : off + j < cs.toList.length := by simp; omega
    rw [List.set_eq_take_append_cons_drop, if_pos h1]
    have h2 : (cs.toList.take (off + j)).length = off + j := by simp; omega
    rw [show off + (j + 1) = (cs.toList.take (off + j) ++ [v]).length by simp; omega, show cs.toList.take (off + j) ++ v :: cs.toList.drop (off + j + 1) = (cs.toList.take (off + j) ++ [v]) ++ cs.toList.drop (off + j + 1) by simp]
    rw [List.take_left]
    rw [show (cs.toList.take (off + j) ++ [v]).length + vs.length = (cs.toList.take (off + j) ++ [v]).length + vs.length from rfl, List.drop_append, List.drop_of_length_le (by omega), Nat.add_sub_cancel_left, List.drop_drop]
    simp
    omega
theorem fill_step {place : Nat → Option (Nat × Nat)} {cells : Array Value} {i off size : Nat} {v : Value} {rest : List (Nat × Value)} (hp : place i = some (off, size)) (h1 : v.cells.size = size) (h2 : off + size ≤ cells.size) :
    Instr.fill place cells ((i, v) :: rest) = Instr.fill place (wr cells.toList off v.cells.toList).toArray rest := by
  subst h1
  simp only [Instr.fill, hp]
  rw [if_neg (by simp; omega)]
  congr 1
  have := foldSet off v.cells.toList 0 cells (by simpa using h2)
  rw [← Array.toList_inj, List.toList_toArray, ← Array.foldl_toList, Array.toList_zipIdx]
  exact this
inductive RelP (Γ : Heap) (ρ : List BI) : List (Nat × AV) → List (Nat × Value) → Prop
  | nil : RelP Γ ρ [] []
  | cons {i : Nat} {a : AV} {v : Value} {r : List (Nat × AV)} {s : List (Nat × Value)} (h : Rel Γ ρ a v) (hs : RelP Γ ρ r s) : RelP Γ ρ ((i, a) :: r) ((i, v) :: s)
theorem RelP.map {evA : Operand → AV} {evV : Operand → Value} (he : ∀ x, Rel Γ ρ (evA x) (evV x)) : ∀ (l : List (Nat × Operand)), RelP Γ ρ (l.map fun p => (p.1, evA p.2)) (l.map fun p => (p.1, evV p.2))
  | [] => .nil
  | p :: r => .cons (he _) (RelP.map he r)
theorem fillA_run {sz : Nat} {place : Nat → Option (Nat × Nat)} (hp : ∀ i, place i = some (i * sz, sz)) : ∀ {pa : List (Nat × AV)} {pv : List (Nat × Value)} {cs ds : List AV} {vs : List Value}, RelP Γ ρ pa pv → RelL Γ ρ cs vs → fillA sz cs pa = some ds → ∃ us, Instr.fill place vs.toArray pv = some us ∧ RelL Γ ρ ds us.toList := by
  intro pa pv cs ds vs h
  induction h generalizing cs vs with
  | nil => intro hr hf; cases hf; exact ⟨vs.toArray, rfl, by simpa using hr⟩
  | @cons i a v r s ha hs ih =>
    intro hr hf
    simp only [fillA] at hf
    cases hk : a.known with
    | none => rw [hk] at hf; cases hf
    | some xs =>
      rw [hk] at hf
      simp only at hf
      split at hf
      · rename_i hc
        have hx := ha.known hk
        have hxl : v.cells.size = xs.length := by have := hx.1; simpa using this.symm
        have hl := hr.1
        obtain ⟨us, g1, g2⟩ := ih (wr_rel hr hx (i * sz) hc.2) hf
        refine ⟨us, ?_, g2⟩
        rw [fill_step (hp i) (by omega) (by simp; omega)]
        exact g1
      · cases hf
theorem tff_place {t : TypeId} {fs : Array Field} (hd : tk P t = .struct fs) (hall : fs.all (fun f => tsz P f.type != 0) = true) :
    ∃ places, fs.toList.mapM (fun f => (P.info? f.type).map fun i => (f.offset, i.size)) = some places ∧ ∀ i off ft, tff P t i = some (off, ft) → places.toArray[i]? = some (off, tsz P ft) := by
  have key : ∀ (l : List Field), l.all (fun f => tsz P f.type != 0) = true → ∃ places, l.mapM (fun f => (P.info? f.type).map fun i => (f.offset, i.size)) = some places ∧ ∀ (i : Nat) (f : Field), l[i]? = some f → places[i]? = some (f.offset, tsz P f.type) := by
    intro l
    induction l with
    | nil => intro _; exact ⟨[], rfl, by simp⟩
    | cons f l ih =>
      intro h
      simp only [List.all_cons, Bool.and_eq_true, bne_iff_ne, ne_eq] at h
      obtain ⟨places, g1, g2⟩ := ih h.2
      obtain ⟨inf, hi, hs, _⟩ := info_of_tsz h.1
      refine ⟨(f.offset, inf.size) :: places, ?_, fun i f' hf => ?_⟩
      · simp [List.mapM_cons, hi, g1]
      · cases i with
        | zero => simp at hf; subst hf; simp [hs]
        | succ i => simpa using g2 i f' (by simpa using hf)
  obtain ⟨places, g1, g2⟩ := key fs.toList (by simpa using hall)
  refine ⟨places, g1, fun i off ft h => ?_⟩
  unfold tff at h
  rw [hd] at h
  simp only at h
  cases hf : fs[i]? with
  | none => rw [hf] at h; cases h
  | some f =>
    rw [hf] at h
    cases h
    simpa using g2 i f (by simpa using hf)
theorem fillS_run {t : TypeId} {place : Nat → Option (Nat × Nat)} (hp : ∀ i off ft, tff P t i = some (off, ft) → place i = some (off, tsz P ft)) : ∀ {pa : List (Nat × AV)} {pv : List (Nat × Value)} {cs ds : List AV} {vs : List Value}, RelP Γ ρ pa pv → RelL Γ ρ cs vs → fillS P t cs pa = some ds → ∃ us, Instr.fill place vs.toArray pv = some us ∧ RelL Γ ρ ds us.toList := by
  intro pa pv cs ds vs h
  induction h generalizing cs vs with
  | nil => intro hr hf; cases hf; exact ⟨vs.toArray, rfl, by simpa using hr⟩
  | @cons i a v r s ha hs ih =>
    intro hr hf
    simp only [fillS] at hf
    split at hf
    · rename_i off ft xs hk1 hk
      split at hf
      · rename_i hc
        have hx := ha.known hk
        have hxl : v.cells.size = xs.length := by have := hx.1; simpa using this.symm
        have hl := hr.1
        obtain ⟨us, g1, g2⟩ := ih (wr_rel hr hx off hc.2) hf
        refine ⟨us, ?_, g2⟩
        rw [fill_step (hp i off ft hk1) (by omega) (by simp; omega)]
        exact g1
      · cases hf
    · cases hf

theorem madeCells_flat (z : Array Value) (hz : 0 < z.size) : ∀ (k : Nat), (madeCells z (k * z.size)).toList = (List.replicate k z.toList).flatten
  | 0 => by simp [madeCells]
  | k + 1 => by
    rw [List.replicate_succ, List.flatten_cons, ← madeCells_flat z hz k]
    unfold madeCells
    rw [Nat.add_mul, Nat.one_mul, Nat.add_comm]
    refine List.ext_getElem (by simp) fun i h1 h2 => ?_
    simp only [Array.toList_map, Array.toList_range, List.getElem_map, List.getElem_range]
    by_cases hi : i < z.size
    · rw [List.getElem_append_left (by simpa using hi), Nat.mod_eq_of_lt hi]
      simp [hi]
    · rw [List.getElem_append_right (by simpa using hi)]
      simp only [List.getElem_map, List.getElem_range, Array.length_toList]
      rw [Nat.mod_eq_sub_mod (Nat.le_of_not_lt hi)]
theorem zeros_rel (z : Value) (k : Nat) : RelL Γ ρ (List.replicate k (z.cells.toList.map AV.p)).flatten (List.replicate k z.cells.toList).flatten := by
  have : (List.replicate k (z.cells.toList.map AV.p)).flatten = ((List.replicate k z.cells.toList).flatten).map .p := by
    rw [List.map_flatten, List.map_replicate]
  rw [this]; exact .ps _

/-- a new row that may grow -/
theorem St.newBuf (hs : St Γ ρ T w) (E : TypeId) (sz n c : Nat) {vs : List Value} {cur : Array Value} (h0 : 0 < sz) (hv : RelL Γ ρ cs vs) (hl : vs.length = n * sz) (hn : n ≤ c) (hc : c ≤ maxLen) (hcur : cur.size = c * sz) (ht : cur.toList.take (n * sz) = vs) :
    St Γ (ρ ++ [⟨some w.heap.size, c, true⟩]) (T ++ [.buf E sz cs]) (w.alloc (.cells cur E)) ∧ Ext Γ ρ T w Γ (ρ ++ [⟨some w.heap.size, c, true⟩]) (T ++ [.buf E sz cs]) (w.alloc (.cells cur E)) [] := by
  refine hs.push _ _ (alloc_of hs _) (alloc_old _) ⟨⟨rfl, h0⟩, n, by rw [hv.1, hl], hn, .inr ⟨_, cur, rfl, by rw [heap_alloc, if_pos rfl], hc, hcur, ?_⟩⟩ fun b hb => ?_
  · rw [ht]; exact hv.mono (Heap.le_refl _) (snoc_mono _ _)
  · cases hb; exact Nat.le_refl _

theorem blsA_sound {t : TypeId} {k : Nat} {pa : List (Nat × AV)} {pv : List (Nat × Value)} (hs : St Γ ρ T w) (hp : RelP Γ ρ pa pv) (h : blsA P (tk P t) k pa T K) : RunV P (Instr.buildSlice t k pv.toArray) w (Post Γ ρ T w K) := by
  generalize hd : tk P t = d at h
  unfold blsA at h
  split at h
  · rename_i e
    split at h
    · exact h.elim
    · rename_i hz0
      obtain ⟨z, hz, ⟨hzs, hk⟩, h⟩ := getO_elim h
      obtain ⟨ds, hf, h⟩ := getO_elim h
      obtain ⟨i, hi, hsz, _, hzr⟩ := info_of_tsz (P := P) (t := e) hz0
      have hz' : i.zero = some z := by rw [hzr, hz]
      obtain ⟨us, g1, g2⟩ := fillA_run (place := fun j => some (j * tsz P e, tsz P e)) (fun _ => rfl) hp (zeros_rel z k) hf
      have hlen : ds.length = k * tsz P e := by
        have : ∀ {cs ds : List AV} {pa : List (Nat × AV)}, fillA (tsz P e) cs pa = some ds → ds.length = cs.length := by
          intro cs ds pa
          induction pa generalizing cs with
          | nil => intro h; cases h; rfl
          | cons p r ih =>
            obtain ⟨j, a⟩ := p
            intro h
            simp only [fillA] at h
            split at h
            · cases h
            · split at h
              · rename_i hc; rw [ih h, wrA_length hc.2]
              · cases h
        rw [this hf]
        simp [hzs]
      have hul : us.size = k * tsz P e := by have := g2.1; simp at this; omega
      have hzz : (List.replicate k z.cells.toList).flatten.toArray = (Array.range (k * tsz P e)).map ((if k * tsz P e = 0 then #[] else z.cells)[· % (if k * tsz P e = 0 then #[] else z.cells).size]!) := by
        by_cases hk0 : k * tsz P e = 0
        · rw [hk0]
          have : k = 0 := by rcases Nat.mul_eq_zero.1 hk0 with h | h; exact h; exact (hz0 h).elim
          subst this; simp
        · rw [if_neg hk0]
          have := madeCells_flat z.cells (by omega) k
          rw [hzs] at this
          rw [← this, Array.toArray_toList]; rfl
      rw [hzz] at g1
      obtain ⟨k1, k2⟩ := hs.newBuf e (tsz P e) k k (vs := us.toList) (cur := us) (by omega) g2 (by simpa using hul) (Nat.le_refl _) (by unfold maxLen; have : k ≤ k * tsz P e := Nat.le_mul_of_pos_right _ (by omega); omega) hul (List.take_of_length_le (by simp; omega))
      refine ⟨_, w.alloc (.cells us e), ?_, Γ, _, _, _, _, k1, k2, sl_new hs _ k (Nat.le_refl _), h⟩
      have hbig : ¬ k * tsz P e > 16777216 := by omega
      by_cases hk0 : k * tsz P e = 0
      · simp only [if_pos hk0] at g1
        simp only [Instr.buildSlice, Sem.run_bind, tis_of hd rfl, Result.andThen_ok, sizeOf, typeInfo, run_program, hi, hsz, Sem.run_pure, show (2 : Nat) ^ 24 = 16777216 from rfl, if_neg hbig, if_pos hk0]
        simp [hk0] at g1
        simp [hk0, g1, newRow]
      · simp only [if_neg hk0] at g1
        simp only [Instr.buildSlice, Sem.run_bind, tis_of hd rfl, Result.andThen_ok, sizeOf, typeInfo, run_program, hi, hsz, Sem.run_pure, show (2 : Nat) ^ 24 = 16777216 from rfl, if_neg hbig, if_neg hk0, zeroValue, hz']
        simp [g1, newRow]
  · exact h.elim

theorem bldA_sound {t : TypeId} {K : AV → Prop} {I : World → Prop} {pa : List (Nat × AV)} {pv : List (Nat × Value)} (hp : RelP Γ ρ pa pv) (h : bldA P t pa K) : FloatP P (Instr.build t pv.toArray) I (Lft Γ ρ K) := by
  obtain ⟨z, hz, h⟩ := getO_elim h
  have hz2 := hz
  unfold tzr at hz2
  cases hi : P.info? t with
  | none => rw [hi] at hz2; cases hz2
  | some inf =>
    rw [hi] at hz2
    have hz' : inf.zero = some z := hz2
    unfold bldC at h
    split at h
    · rename_i hst
      obtain ⟨ds, hf, h⟩ := getO_elim h
      unfold tst at hst
      split at hst
      · rename_i fs hd
        obtain ⟨places, q1, q2⟩ := tff_place hd hst
        obtain ⟨us, g1, g2⟩ := fillS_run (place := (places.toArray[·]?)) q2 hp (RelL.ps z.cells.toList) hf
        have hb : P.built t pv = some us := by
          unfold Program.built
          rw [hi, underlying_some (by rw [hd]; rfl), hd]
          simp only [hz', q1]
          simpa using g1
        refine ⟨_, fun w _ => run_build w t pv.toArray us hb, _, ?_, h⟩
        simpa using Rel.ag' g2
      · cases hst
    · generalize hd : tk P t = d at h
      unfold bldB at h
      split at h
      · rename_i n e
        split at h
        · exact h.elim
        · rename_i hz0
          obtain ⟨ds, hf, h⟩ := getO_elim h
          obtain ⟨ie, hie, hsz, _⟩ := info_of_tsz hz0
          obtain ⟨us, g1, g2⟩ := fillA_run (place := fun j => some (j * tsz P e, tsz P e)) (fun _ => rfl) hp (RelL.ps z.cells.toList) hf
          have hb : P.built t pv = some us := by
            unfold Program.built
            rw [hi, underlying_some (by rw [hd]; rfl), hd]
            simp only [hz', hie, hsz]
            simpa using g1
          refine ⟨_, fun w _ => run_build w t pv.toArray us hb, _, ?_, h⟩
          simpa using Rel.ag' g2
      · exact h.elim

theorem mksA_sound {t : TypeId} (hs : St Γ ρ T w) (hx : Rel Γ ρ a u) (hy : Rel Γ ρ b v) (h : mksA P (tk P t) a b T K) : RunV P (Instr.makeSlice t u v) w (Post Γ ρ T w K) := by
  generalize hd : tk P t = d at h
  unfold mksA at h
  split at h
  · rename_i e kx x ky y
    split at h
    · exact h.elim
    · rename_i hz0
      obtain ⟨z, hz, ⟨h1, h2, hzs, hl⟩, h⟩ := getO_elim h
      have := hx.p_inv; subst this
      have := hy.p_inv; subst this
      obtain ⟨i, hi, hsz, hby, hzr⟩ := info_of_tsz (P := P) (t := e) hz0
      have htu : P.underlying t = some (.slice e) := by rw [← hd]; exact underlying_some (by rw [hd]; rfl)
      have hyn : y = (y.toNat : Int) := by omega
      have hbb : (i.bytes : Int) * y ≤ 281474976710656 := by
        have := hl.1
        rw [hyn, hby, Int.mul_comm, ← Int.natCast_mul]
        omega
      have hr := run_make (P := P) (w := w) t e i z htu hi (by rw [hzr, hz]) kx ky x y h1 h2 hbb (by have := hl.2; omega)
      have hcur := madeCells_flat z.cells (by omega) y.toNat
      rw [hzs] at hcur
      have htake : (madeCells z.cells (y.toNat * i.size)).toList.take (x.toNat * tsz P e) = (List.replicate x.toNat z.cells.toList).flatten := by
        rw [hsz, hcur]
        rw [show y.toNat = x.toNat + (y.toNat - x.toNat) by omega, ← List.replicate_append_replicate, List.flatten_append]
        rw [List.take_left' (by simp [hzs])]
      obtain ⟨k1, k2⟩ := hs.newBuf e (tsz P e) x.toNat y.toNat (vs := (List.replicate x.toNat z.cells.toList).flatten) (cur := madeCells z.cells (y.toNat * i.size)) (by omega) (zeros_rel z x.toNat) (by simp [hzs]) (by omega)
        (by have := hl.2; unfold maxLen; omega) (by rw [size_madeCells, hsz]) htake
      exact ⟨_, _, hr, Γ, _, _, _, _, k1, k2, sl_new hs _ _ (by simp only; omega), h⟩
  · exact h.elim

theorem cpyA_sound {ts : Array TypeId} {ty : TypeId} (hs : St Γ ρ T w) (hx : Rel Γ ρ a u) (hy : Rel Γ ρ b v) (h : cpyA P ts.toList a b T K) : RunV P (Builtin.copy_ ts ty #[u, v]) w (Post Γ ρ T w K) := by
  unfold cpyA at h
  split at h
  · rename_i t t' hts
    have hts' : ts = #[t, t'] := by cases ts; simp at hts; simp [hts]
    subst hts'
    generalize hd : tk P t = d at h
    unfold cpyE at h
    split at h
    · rename_i E i off n
      obtain ⟨hsz, h⟩ := h
      obtain ⟨e, m, dd, ys, us, rfl, hrel, hyl, hrd, ⟨hones, hyl', hm, hno⟩, h⟩ := srcA_elim h hs hy
      obtain ⟨o, hT, h⟩ := getO_elim h
      have htu : P.underlying t = some (.slice E) := by rw [← hd]; exact underlying_some (by rw [hd]; rfl)
      obtain ⟨inf, hi, his, _⟩ := info_of_tsz (P := P) (t := E) (by omega)
      have hul : us.length = m := by rw [← hrel.1]; exact hyl'
      obtain ⟨q, rfl, hq1, hq2⟩ := hrd.cells (by intro e; rw [e] at hul; simp at hul; omega)
      have htk : RelL Γ ρ (ys.take (min m n)) (us.take (min m n)) := hrel.take _
      have hlk : (ys.take (min m n)).length = (us.take (min m n)).length := htk.1
      cases hx with
      | @sl _ _ _ _ c x ad hx ha hc h0 =>
        have hor := hs.obj i o x hT hx
        have run : ∀ (g : Nat) (cur : Array Value) (E' : TypeId) (o' : AObj), x.blk = some g → o.live = true → o'.live = true → w.heap[g]? = some (.cells cur E' (0, 0)) → off + (us.take (min m n)).length ≤ cur.size →
            (∀ w', w'.heap[g]? = some (.cells (wr cur.toList off (us.take (min m n))).toArray E' (0, 0)) → ObjRel Γ ρ w' x o') → K (.p (.int .i64 (min m n : Nat))) (T.set i o') [(i, false)] →
            RunV P (Builtin.copy_ #[t, t'] ty #[.slice ad n c, .slice (some q) m dd]) w (Post Γ ρ T w K) := by
          intro g cur E' o' hb hl hl' hg hfit hr hk
          rw [ha (.inl hno), hb]
          have hones' : ∀ v ∈ us.take (min m n), v.oneCell' = true := fun v hv => hrel.ones hones v (List.mem_of_mem_take hv)
          have hrun := run_copy_row (P := P) w t t' ty E g off n c q m dd cur E' (us.take (min m n)) htu (by rw [hi]; simp [his, hsz]) hg (by rw [List.length_take, hul]; show min (min m n) m = min m n; omega) (fun j v hv => hq2 j v (by rw [List.getElem?_take] at hv; split at hv; exact hv; cases hv)) hfit hones'
          obtain ⟨k1, k2⟩ := hs.write hT hx hl o' hl' (w' := w.setRow g (wr cur.toList off (us.take (min m n))).toArray) (fun b hb' => setRow_other w g b _ (fun e => hb' (by rw [e]; exact hb))) ⟨rfl, rfl⟩ (hr _ (setRow_heap w g cur _ E' _ hg))
          refine ⟨_, _, hrun, Γ, ρ, _, _, _, k1, k2, ?_, hk⟩
          have : (us.take (min m n)).length = min m n := by simp; omega
          rw [this]; exact .p _
        unfold cpyB at h
        split at h
        · rename_i E' cs
          obtain ⟨h1, hk⟩ := h
          obtain ⟨g0, g, vs, e1, e2, e3⟩ := hor
          refine run g vs.toArray E' (.cells E' (wrA cs off (ys.take (min m n)))) e1 rfl rfl e2 (by rw [← hlk, List.size_toArray, ← e3.1]; exact h1) (fun w' hw' => ⟨g0, g, _, e1, hw', ?_⟩) hk
          exact wr_rel e3 htk off h1
        · rename_i E' sz cs
          obtain ⟨h1, hk⟩ := h
          obtain ⟨g0, k, e1, e2, ⟨e3, rfl, e5⟩ | ⟨g, cur, e3, e4, e5, e6, e7⟩⟩ := hor
          · simp only [List.length_nil] at h1
            have : (ys.take (min m n)).length = min m n := by simp; omega
            omega
          · have hle : k * sz ≤ cur.toList.length := by rw [Array.length_toList, e6]; exact Nat.mul_le_mul_right _ e2
            refine run g cur E' (.buf E' sz (wrA cs off (ys.take (min m n)))) e3 rfl rfl e4 (by rw [← hlk]; rw [Array.length_toList] at hle; omega) (fun w' hw' => ⟨g0, k, by rw [wrA_length h1]; exact e1, e2, .inr ⟨g, _, e3, hw', e5, ?_, ?_⟩⟩) hk
            · rw [List.size_toArray, wr_length (by rw [← hlk]; omega), Array.length_toList, e6]
            · have := wr_rel e7 htk off h1
              rwa [wr_take (by rw [← hlk]; omega) hle] at this
        · exact h.elim
    · exact h.elim
  · exact h.elim

theorem callA_sound {G : Nat → AV} {args : List AV} {vs : List Value} (hG : GOK G Γ) (hs : St Γ ρ T w) (hf : Rel Γ ρ a v) (ha : RelL Γ ρ args vs) (h : callA P G a args T K) : callV P v vs w (Post Γ ρ T w K) := by
  have key : ∀ {e : Bool} {g : FuncId} {args : List AV} {vs : List Value}, RelL Γ ρ args vs → callF e P G g args T K → callE e P g vs.toArray w (Post Γ ρ T w K) := by
    intro e g args vs ha h
    cases e with
    | true => exact h Γ ρ w vs hG hs ha
    | false => exact h Γ ρ w vs hG hs ha
  unfold callA at h
  split at h
  · have := hf.p_inv; subst this
    have := key ha h
    simpa [callV] using this
  · obtain ⟨us, rfl, h1⟩ := hf.fn_inv
    have := key (ha.append h1) h
    simpa [callV] using this
  · have := hf.p_inv; subst this
    have := h Γ ρ w vs hG hs ha
    simpa [callV] using this
  · cases hf with
    | yl hx hb =>
      have := h Γ ρ w vs _ _ hG hs ha hx hb
      simpa [callV] using this
  · exact h.elim

/-! ### Maps -/
theorem St.map_at (hs : St Γ ρ T w) {i : Nat} {x : BI} {es : List (Value × AV)} {b : Nat} (hT : T[i]? = some (.map es)) (hx : ρ[i]? = some x) (hb : x.blk = some b) :
    ∃ ms c, w.heap[b]? = some (.map ms c) ∧ MapRel Γ ρ es ms.toList c := by
  obtain ⟨b', ms, c, g1, g2, g3⟩ := hs.obj _ _ _ hT hx
  rw [hb] at g1; cases g1
  exact ⟨ms, c, g2, g3⟩
theorem run_setMap {b : Nat} {ms ms' : Array MapEntry} {c c' : Nat} (h : w.heap[b]? = some (.map ms c)) : (setObj b (.map ms' c')).run P w = .ok () { w with heap := w.heap.setIfInBounds b (.map ms' c') } := by
  simp [setObj, Sem.run, h]
theorem St.setMap (hs : St Γ ρ T w) {i : Nat} {x : BI} {es es' : List (Value × AV)} {b : Nat} {ms ms' : Array MapEntry} {c c' : Nat} (hT : T[i]? = some (.map es)) (hx : ρ[i]? = some x) (hb : x.blk = some b) (hw : w.heap[b]? = some (.map ms c))
    (hm : MapRel Γ ρ es' ms'.toList c') : St Γ ρ (T.set i (.map es')) { w with heap := w.heap.setIfInBounds b (.map ms' c') } ∧ Ext Γ ρ T w Γ ρ (T.set i (.map es')) { w with heap := w.heap.setIfInBounds b (.map ms' c') } [(i, false)] := by
  have hb' : b < w.heap.size := (Array.getElem?_eq_some_iff.1 hw).1
  refine hs.write hT hx rfl (.map es') rfl (fun k hk => ?_) ⟨rfl, rfl⟩ ⟨b, ms', c', hb, ?_, hm⟩
  · have : b ≠ k := fun e => hk (by rw [← e]; exact hb)
    simp [Array.getElem?_setIfInBounds, this]
  · simp [Array.getElem?_setIfInBounds, hb']
theorem mapKO_keys {kt : TypeId} {es : List (Value × AV)} {ms : Array MapEntry} {c : Nat} {S : Value → Prop} (h : MapRel Γ ρ es ms.toList c) (hk : ∀ e ∈ es, S e.1) : ∀ e ∈ ms.toList, S e.key := fun e he => by
  have : e.key ∈ ms.toList.map (·.key) := List.mem_map_of_mem he
  rw [← h.2.1] at this
  obtain ⟨p, hp, e2⟩ := List.mem_map.1 this
  rw [← e2]; exact hk p hp
theorem MapRel.keys {es : List (Value × AV)} {ms : List MapEntry} {c : Nat} (h : MapRel Γ ρ es ms c) {j : Nat} {p : Value × AV} {e : MapEntry} (h1 : es[j]? = some p) (h2 : ms[j]? = some e) : p.1 = e.key := by
  have := congrArg (·[j]?) h.2.1
  simpa [h1, h2] using this
theorem MapRel.nodup {es : List (Value × AV)} {ms : List MapEntry} {c : Nat} (h : MapRel Γ ρ es ms c) : (es.map (·.1)).Nodup := by rw [h.2.1]; exact h.2.2.2.2
theorem nodup_at {α β : Type _} {f : α → β} {l : List α} (h : (l.map f).Nodup) {i j : Nat} {a b : α} (hi : l[i]? = some a) (hj : l[j]? = some b) (e : f a = f b) : i = j := by
  obtain ⟨h1, rfl⟩ := List.getElem?_eq_some_iff.1 hi
  obtain ⟨h2, rfl⟩ := List.getElem?_eq_some_iff.1 hj
  rcases Nat.lt_trichotomy i j with g | g | g
  · have := List.pairwise_iff_getElem.1 h i j (by simpa using h1) (by simpa using h2) g
    simp [e] at this
  · exact g
  · have := List.pairwise_iff_getElem.1 h j i (by simpa using h2) (by simpa using h1) g
    simp [e] at this
open Classical in
theorem MapRel.mset {es : List (Value × AV)} {ms : Array MapEntry} {c : Nat} (h : MapRel Γ ρ es ms.toList c) {k y : Value} {x : AV} (hr : Rel Γ ρ x y) :
    (kfind ms.toList k = none ∧ MapRel Γ ρ (mset es k x) (ms.push ⟨k, y, c⟩).toList (c + 1)) ∨ (∃ j e, kfind ms.toList k = some (j, e.val) ∧ ms[j]? = some e ∧ e.key = k ∧ MapRel Γ ρ (mset es k x) (ms.modify j fun e => { e with key := k, val := y }).toList c) := by
  rcases kfind_rel h k with ⟨e1, e2⟩ | ⟨j, e0, a0, e1, e2, e3, e4, e5, hr0⟩
  · refine .inl ⟨e1, ?_⟩
    unfold Go.E.mset
    rw [e2]
    obtain ⟨h1, h2, h3, h4, h5⟩ := h
    have hno : ∀ e ∈ ms.toList, e.key ≠ k := fun e he hk => by
      unfold kfind at e1
      have hx : ms.toList.findIdx? (fun e => decide (e.key = k)) = none := by
        cases hf : ms.toList.findIdx? (fun e => decide (e.key = k)) with
        | none => rfl
        | some j =>
          rw [hf] at e1
          have hj := (List.findIdx?_eq_some_iff_getElem.1 hf).1
          simp [hj] at e1
          have : j < ms.size := by simpa using hj
          omega
      rw [List.findIdx?_eq_none_iff] at hx
      simpa [hk] using hx e he
    refine ⟨by simpa using h1.append (.cons hr .nil), by simp [h2], ?_, ?_, ?_⟩
    · simp only [Array.toList_push, List.map_append, List.map_cons, List.map_nil]
      rw [List.nodup_append]
      refine ⟨h3, by simp, fun a ha b hb => ?_⟩
      simp at hb; subst hb
      obtain ⟨e, he, rfl⟩ := List.mem_map.1 ha
      exact Nat.ne_of_lt (h4 e he)
    · intro e he
      simp only [Array.toList_push, List.mem_append, List.mem_singleton] at he
      rcases he with he | rfl
      · exact Nat.lt_succ_of_lt (h4 e he)
      · exact Nat.lt_succ_self _
    · simp only [Array.toList_push, List.map_append, List.map_cons, List.map_nil]
      rw [List.nodup_append]
      refine ⟨h5, by simp, fun a ha b hb => ?_⟩
      simp at hb; subst hb
      obtain ⟨e, he, rfl⟩ := List.mem_map.1 ha
      exact hno e he
  · refine .inr ⟨j, e0, e1, by simpa using e2, e3, ?_⟩
    have hnd := h.nodup
    have hms : Go.E.mset es k x = es.set j (k, x) := by
      unfold Go.E.mset
      rw [e5]
      refine List.ext_getElem? fun i => ?_
      simp only [List.getElem?_map, List.getElem?_set]
      by_cases hi : j = i
      · subst hi
        obtain ⟨g1, _⟩ := List.getElem?_eq_some_iff.1 e4
        rw [e4, if_pos rfl, if_pos g1]; simp
      · rw [if_neg hi]
        cases he : es[i]? with
        | none => rfl
        | some p =>
          have : p.1 ≠ k := fun e => hi (nodup_at hnd e4 he (by simp [e]))
          simp [this]
    rw [hms]
    obtain ⟨g1, rfl⟩ := List.getElem?_eq_some_iff.1 e2
    have g1' : j < ms.size := by simpa using g1
    have hl : (ms.modify j fun e => { e with key := k, val := y }).toList = ms.toList.set j ⟨k, y, (ms.toList[j]).born⟩ := by
      refine List.ext_getElem? fun i => ?_
      simp only [Array.getElem?_toList, Array.getElem?_modify, List.getElem?_set]
      by_cases hi : j = i
      · subst hi; simp [g1']
      · simp [hi]
    rw [hl]
    obtain ⟨h1, h2, h3, h4, h5⟩ := h
    refine ⟨by simpa [List.map_set] using h1.set hr j, ?_, ?_, ?_, ?_⟩
    · simp only [List.map_set, h2]
    · rw [List.map_set]
      have : (ms.toList.map (·.born)).set j (ms.toList[j]).born = ms.toList.map (·.born) := by
        refine List.ext_getElem? fun i => ?_
        simp only [List.getElem?_set, List.getElem?_map]
        by_cases hi : j = i
        · subst hi; simp [g1']
        · simp [hi]
      show ((ms.toList.map (·.born)).set j (ms.toList[j]).born).Nodup
      rw [this]; exact h3
    · intro e he
      rcases List.mem_or_eq_of_mem_set he with he | rfl
      · exact h4 e he
      · have := h4 (ms.toList[j]) (List.getElem_mem g1)
        exact this
    · rw [List.map_set]
      have : (ms.toList.map (·.key)).set j k = ms.toList.map (·.key) := by
        refine List.ext_getElem? fun i => ?_
        simp only [List.getElem?_set, List.getElem?_map]
        by_cases hi : j = i
        · subst hi; simp [g1', ← e3]
        · simp [hi]
      show ((ms.toList.map (·.key)).set j k).Nodup
      rw [this]; exact h5
theorem mupA_sound {t : TypeId} {c : AV} {y : Value} (hs : St Γ ρ T w) (hx : Rel Γ ρ a u) (hy : Rel Γ ρ b v) (hz : Rel Γ ρ c y) (h : mupA P (tk P t) a b c T K) : RunV P (do Instr.mapUpdate t u v y; pure undef) w (Post Γ ρ T w K) := by
  generalize hd : tk P t = d at h
  unfold mupA at h
  split at h
  · rename_i kt _
    obtain ⟨kv, hk, h⟩ := getO_elim h
    have := hy.flat hk; subst this
    unfold mupB at h
    split at h
    · rename_i i
      obtain ⟨o, hT, h⟩ := getO_elim h
      unfold mupC at h
      split at h
      · rename_i es
        obtain ⟨⟨S, hS, hk1, hk2⟩, h⟩ := h
        cases hx with
        | mp hx hb =>
        obtain ⟨ms, cl, hw, hm⟩ := hs.map_at hT hx hb
        have hg := run_getObjM (P := P) hw
        have hf := hS.find w hk1 ms.toList (mapKO_keys (kt := kt) hm hk2) hm.2.2.2.2
        rcases hm.mset (k := v) hz with ⟨e1, e2⟩ | ⟨j, e0, e1, e3, e4, e2⟩
        · obtain ⟨k1, k2⟩ := hs.setMap hT hx hb hw e2
          refine ⟨undef, _, ?_, Γ, ρ, _, _, _, k1, k2, .p _, h⟩
          rw [e1] at hf
          simp only [Instr.mapUpdate, Sem.run_bind, tis_of hd rfl, Result.andThen_ok, hg, hS.check w false hk1, hf, run_setMap hw, Sem.run_pure]
        · obtain ⟨k1, k2⟩ := hs.setMap hT hx hb hw e2
          refine ⟨undef, _, ?_, Γ, ρ, _, _, _, k1, k2, .p _, h⟩
          rw [e1] at hf
          simp only [Instr.mapUpdate, Sem.run_bind, tis_of hd rfl, Result.andThen_ok, hg, hS.check w false hk1, hf, e3, Option.map_some, Option.getD_some, e4, hS.stays w hk1, run_setMap hw, Sem.run_pure]
      · exact h.elim
    · exact h.elim
  · exact h.elim
open Classical in
theorem MapRel.mdel {es : List (Value × AV)} {ms : Array MapEntry} {c : Nat} (h : MapRel Γ ρ es ms.toList c) (k : Value) :
    (kfind ms.toList k = none ∧ MapRel Γ ρ (mdel es k) ms.toList c) ∨ (∃ j v, kfind ms.toList k = some (j, v) ∧ MapRel Γ ρ (mdel es k) (ms.eraseIdxIfInBounds j).toList c) := by
  rcases kfind_rel h k with ⟨e1, e2⟩ | ⟨j, e0, a0, e1, e2, e3, e4, e5, hr0⟩
  · refine .inl ⟨e1, ?_⟩
    have : Go.E.mdel es k = es := by
      unfold Go.E.mdel
      rw [List.filter_eq_self]
      intro e he
      unfold mfind at e2
      rw [Option.map_eq_none_iff, List.find?_eq_none] at e2
      simpa using e2 e he
    rw [this]; exact h
  · refine .inr ⟨j, _, e1, ?_⟩
    have hnd := h.nodup
    obtain ⟨g1, g2⟩ := List.getElem?_eq_some_iff.1 e4
    have hms : Go.E.mdel es k = es.eraseIdx j := by
      unfold Go.E.mdel
      rw [List.eraseIdx_eq_take_drop_succ]
      have hsplit : es = es.take j ++ (es[j] :: es.drop (j + 1)) := by rw [List.getElem_cons_drop, List.take_append_drop]
      have ha : ∀ e ∈ es.take j, (!decide (e.1 = k)) = true := fun e he => by
        obtain ⟨i, hi, rfl⟩ := List.getElem_of_mem he
        simp only [List.length_take] at hi
        rw [List.getElem_take]
        have : (es[i]'(by omega)).1 ≠ k := fun e => by
          have := nodup_at hnd (i := i) (j := j) (a := es[i]'(by omega)) (b := es[j]) (by simp) (by simp [g1]) (by rw [e, g2])
          omega
        simpa using this
      have hb : ∀ e ∈ es.drop (j + 1), (!decide (e.1 = k)) = true := fun e he => by
        obtain ⟨i, hi, rfl⟩ := List.getElem_of_mem he
        simp only [List.length_drop] at hi
        rw [List.getElem_drop]
        have : (es[j + 1 + i]'(by omega)).1 ≠ k := fun e => by
          have := nodup_at hnd (i := j + 1 + i) (j := j) (a := es[j + 1 + i]'(by omega)) (b := es[j]) (by simp) (by simp [g1]) (by rw [e, g2])
          omega
        simpa using this
      conv => lhs; rw [hsplit]
      rw [List.filter_append, List.filter_cons, List.filter_eq_self.2 ha, List.filter_eq_self.2 hb, g2]
      simp
    rw [hms]
    have hj : j < ms.size := by have := (List.getElem?_eq_some_iff.1 e2).1; simpa using this
    have hl : (ms.eraseIdxIfInBounds j).toList = ms.toList.eraseIdx j := by
      rw [Array.eraseIdxIfInBounds, dif_pos hj, Array.toList_eraseIdx]
    rw [hl]
    obtain ⟨h1, h2, h3, h4, h5⟩ := h
    have hmap : ∀ {α β : Type} (f : α → β) (l : List α), (l.eraseIdx j).map f = (l.map f).eraseIdx j := fun f l => by
      rw [List.eraseIdx_eq_take_drop_succ, List.eraseIdx_eq_take_drop_succ]; simp
    refine ⟨?_, by rw [hmap, hmap, h2], ?_, fun e he => h4 e (List.mem_of_mem_eraseIdx he), ?_⟩
    · rw [hmap, hmap]
      have g := (h1.take j).append (h1.drop (j + 1))
      rwa [← List.eraseIdx_eq_take_drop_succ, ← List.eraseIdx_eq_take_drop_succ] at g
    · rw [hmap]; exact h3.sublist (List.eraseIdx_sublist _ _)
    · rw [hmap]; exact h5.sublist (List.eraseIdx_sublist _ _)
theorem mdlA_sound {t ty : TypeId} {ts : Array TypeId} (hs : St Γ ρ T w) (hx : Rel Γ ρ a u) (hy : Rel Γ ρ b v) (ht : ts[0]? = some t) (h : mdlA P (tk P t) a b T K) : RunV P (Builtin.delete_ ts ty #[u, v]) w (Post Γ ρ T w K) := by
  generalize hd : tk P t = d at h
  unfold mdlA at h
  split at h
  · rename_i kt _
    obtain ⟨kv, hk, h⟩ := getO_elim h
    have := hy.flat hk; subst this
    unfold mdlB at h
    split at h
    · rename_i i
      obtain ⟨o, hT, h⟩ := getO_elim h
      unfold mdlC at h
      split at h
      · rename_i es
        obtain ⟨⟨S, hS, hk1, hk2⟩, h⟩ := h
        cases hx with
        | mp hx hb =>
        obtain ⟨ms, cl, hw, hm⟩ := hs.map_at hT hx hb
        have hg := run_getObjM (P := P) hw
        have hf := hS.find w hk1 ms.toList (mapKO_keys (kt := kt) hm hk2) hm.2.2.2.2
        rcases hm.mdel v with ⟨e1, e2⟩ | ⟨j, e0, e1, e2⟩
        · obtain ⟨k1, k2⟩ := hs.setMap hT hx hb hw e2
          refine ⟨.tuple #[], _, ?_, Γ, ρ, _, _, _, k1, k2, .p _, h⟩
          rw [e1] at hf
          simp [Builtin.delete_, ht, tis_of hd rfl, hg, hS.check w _ hk1, hf, run_setMap hw]
        · obtain ⟨k1, k2⟩ := hs.setMap hT hx hb hw e2
          refine ⟨.tuple #[], _, ?_, Γ, ρ, _, _, _, k1, k2, .p _, h⟩
          rw [e1] at hf
          simp [Builtin.delete_, ht, tis_of hd rfl, hg, hS.check w _ hk1, hf, run_setMap hw]
      · exact h.elim
    · exact h.elim
  · exact h.elim
theorem mkmA_sound {t : TypeId} {r : Option AV} {r' : Option Value} (hs : St Γ ρ T w) (hr : ∀ a, r = some a → ∃ v, r' = some v ∧ Rel Γ ρ a v) (hr0 : r = none → r' = none) (h : mkmA P (tk P t) r T K) : RunV P (Instr.makeMap t r') w (Post Γ ρ T w K) := by
  have key : K (.mp T.length) (T ++ [.map []]) [] → (Instr.makeMap t r').run P w = .ok (.map (some w.heap.size)) (w.alloc (.map #[] 0)) → RunV P (Instr.makeMap t r') w (Post Γ ρ T w K) := fun hk hrun => by
    obtain ⟨k1, k2⟩ := hs.push (w' := w.alloc (.map #[] 0)) ⟨some w.heap.size, 0, false⟩ (.map []) (alloc_of hs _) (alloc_old _) ⟨w.heap.size, #[], 0, rfl, by rw [heap_alloc, if_pos rfl], .nil, rfl, by simp, by simp, by simp⟩ (fun b hb => by cases hb; exact Nat.le_refl _)
    refine ⟨_, _, hrun, Γ, _, _, _, _, k1, k2, ?_, hk⟩
    refine .mp (x := ⟨some w.heap.size, 0, false⟩) ?_ rfl
    rw [← hs.len, getElem?_snoc, if_pos rfl]
  unfold mkmA at h
  split at h
  · rw [hr0 rfl]
    rw [hr0 rfl] at key
    exact key h (by simp [Instr.makeMap])
  · rename_i k n kt e hd
    obtain ⟨v, h1, h2⟩ := hr _ rfl
    have := h2.p_inv; subst this
    rw [h1] at key ⊢
    exact key h (by simp [Instr.makeMap, asInt, asIntOf, tis_of hd rfl])
  · exact h.elim

/-- a new block that lasts -/
theorem St.hold (hs : St Γ ρ T w) {b : Nat} {o : Obj} (hb : w.heap.size ≤ b) (hw : w'.heap[b]? = some o) (hk : ∀ c, c < w.heap.size → w'.heap[c]? = w.heap[c]?) (ho : w'.os = w.os ∧ w'.output = w.output) :
    ∃ Γ', Heap.le Γ Γ' ∧ Γ' b = some o ∧ St Γ' ρ T w' ∧ Ext Γ ρ T w Γ' ρ T w' [] := by
  have hnone : Γ b = none := by
    cases hg : Γ b with
    | none => rfl
    | some x => exact absurd (hs.lt hg) (by omega)
  refine ⟨⟨fun c => if c = b then some o else Γ c, Γ.os, Γ.out⟩, ⟨fun c x hc => ?_, rfl, rfl⟩, by simp, ⟨⟨fun c x hc => ?_, ?_, ?_⟩, hs.len, fun i x y hT hx => ?_, fun i x y c hT hl hx hc => ?_⟩, ⟨⟨fun c x hc => ?_, rfl, rfl⟩, fun _ _ h _ => h, fun i x y c hT hl hx hc hn => ⟨hk _ ((hs.obj _ _ _ hT hx).blk_lt hl hc), _, hT, hl⟩⟩⟩
  · by_cases e : c = b
    · subst e; rw [hnone] at hc; cases hc
    · simpa [e] using hc
  · by_cases e : c = b
    · subst e
      have : o = x := by simpa using hc
      rw [← this]; exact hw
    · have hc' : Γ c = some x := by simpa [e] using hc
      rw [hk c (hs.lt hc')]; exact hs.of.1 c x hc'
  · rw [ho.1]; exact hs.of.2.1
  · rw [ho.2]; exact hs.of.2.2
  · have h1 := hs.obj _ _ _ hT hx
    by_cases hl : x.live = true
    · refine (h1.world (w' := w') fun c hc => hk c (h1.blk_lt hl hc)).mono ⟨fun c z hc => ?_, rfl, rfl⟩ fun _ _ h => h
      by_cases e : c = b
      · subst e; rw [hnone] at hc; cases hc
      · simpa [e] using hc
    · cases x <;> first | (exact absurd rfl hl) | trivial
  · obtain ⟨g1, g2⟩ := hs.apart i x y c hT hl hx hc
    refine ⟨?_, g2⟩
    have : c < w.heap.size := (hs.obj _ _ _ hT hx).blk_lt hl hc
    have e : ¬ c = b := by omega
    simpa [e] using g1
  · by_cases e : c = b
    · subst e; rw [hnone] at hc; cases hc
    · simpa [e] using hc
theorem bytesWorld_os (w : World) (e : TypeId) (s : ByteArray) : (Lib.bytesWorld w e s).os = w.os ∧ (Lib.bytesWorld w e s).output = w.output := by
  simp [Lib.bytesWorld, World.freeze, World.alloc, World.drew, -World.alloc_eq, -World.drew_eq]
theorem cvoA_sound {s t : TypeId} (hs : St Γ ρ T w) (hr : Rel Γ ρ a v) (h : cvoA P (tk P s) (tk P t) s t a T K) : convV (tk P s) (tk P t) s t v (fun s => RunV P s w (Post Γ ρ T w K)) (fun v => Post Γ ρ T w K v w) := by
  generalize hd : tk P s = d at h ⊢
  generalize he : tk P t = e at h ⊢
  unfold cvoA at h
  split at h
  · rename_i el
    obtain ⟨hel, h⟩ := h
    have h := isP_elim h hr
    split at h
    · rename_i x
      simp only [convV]
      have hrun := Lib.run_convert_string_bytes w s t el x (u := .string) (und_of hd rfl) (und_of he rfl) (und_of hel rfl)
      obtain ⟨Γ', h1, h2, h3, h4⟩ := hs.hold (w' := Lib.bytesWorld w el x) (Nat.le_refl _) (Lib.bytesWorld_at_new w el x) (fun c hc => Lib.bytesWorld_at_old w el x c hc) (bytesWorld_os w el x)
      refine ⟨_, _, hrun, Γ', ρ, T, [], _, h3, h4, ?_, h⟩
      have hx : x.size = x.data.toList.length := by rw [Array.length_toList]; rfl
      refine .vs (f := fun k => .int .u8 ((x.data.toList.getD k 0).toNat : Int)) ?_ h2 (fun k hk => ?_) (fun k hk => ?_)
      · exact grownCap_ge _ _ _ _
      · simp only [List.length_map] at hk
        have := Lib.bytesWorld_cell w el x k (by omega)
        simpa [World.cell?, Lib.bytesWorld_at_new] using this
      · simp only [List.getElem_map]
        simp only [List.length_map] at hk
        have : x.data.toList.getD k 0 = x.data.toList[k] := by rw [List.getD_eq_getElem?_getD, List.getElem?_eq_getElem hk]; rfl
        rw [this]; exact .p _
    · exact h.elim
  · subst hd; subst he
    refine convV_mono (cnvA_sound (K := fun a => K a T []) hs h hr) (fun s ⟨v, h1, a, h4, h5⟩ => ?_) fun v ⟨a, h1, h2⟩ => ?_
    · exact ⟨v, w, h1 w (agr_self hs), Γ, ρ, T, [], a, hs, Ext.refl rfl, h4, h5⟩
    · exact ⟨Γ, ρ, T, [], a, hs, Ext.refl rfl, h1, h2⟩

/-- **WHAT IS ASKED OF AN OPERATION SUFFICES** -/
theorem opA_sound {G : Nat → AV} {evA : Operand → AV} {evV : Operand → Value} {o : Op} {ty : TypeId} (hG : GOK G Γ) (hs : St Γ ρ T w) (he : ∀ x, Rel Γ ρ (evA x) (evV x)) (h : opA P G evA o ty T K) :
    opV P evV o ty w (Post Γ ρ T w K) := by
  have hargs : ∀ (l : List Operand), RelL Γ ρ (l.map evA) (l.map evV) := fun l => ⟨by simp, fun k x y hx hy => by
    rw [List.getElem?_map] at hx hy
    cases hk : l[k]? with
    | none => rw [hk] at hx; cases hx
    | some o => rw [hk] at hx hy; cases hx; cases hy; exact he o⟩
  unfold opA at h
  split at h
  · rename_i e
    obtain ⟨z, hz, hk⟩ := getO_elim h
    have hr : (Instr.alloc e true (.tuple #[])).run P w = .ok (.pointer (some ⟨w.heap.size, 0, none⟩)) (w.alloc (.cells z.cells e)) := by
      unfold tzr at hz
      cases hi : P.info? e with
      | none => rw [hi] at hz; cases hz
      | some i =>
        rw [hi] at hz
        have hz' : i.zero = some z := hz
        simp [Instr.alloc, zeroValue, typeInfo, hi, hz', newVar, newRow]
    obtain ⟨k1, k2⟩ := hs.alloc e (RelL.ps z.cells.toList)
    rw [Array.toArray_toList] at k1 k2
    exact ⟨_, _, hr, Γ, _, _, _, _, k1, k2, ptr_new hs _ rfl 0, hk⟩
  · rename_i e x
    obtain ⟨cs, hc, hk⟩ := getO_elim h
    have hr : (Instr.box e (evV x)).run P w = .ok (.pointer (some ⟨w.heap.size, 0, none⟩)) (w.alloc (.cells (evV x).cells e)) := by simp [Instr.box, newVar, newRow]
    obtain ⟨k1, k2⟩ := hs.alloc e ((he x).known hc)
    rw [Array.toArray_toList] at k1 k2
    exact ⟨_, _, hr, Γ, _, _, _, _, k1, k2, ptr_new hs _ rfl 0, hk⟩
  · exact storeA_sound hs (he _) (he _) h
  · exact callA_sound hG hs (he _) (hargs _) h
  · rename_i args ts
    split at h
    · rename_i x y t t' hx ht
      obtain ⟨rfl, h⟩ := h
      have : ts = #[t, t] := by cases ts; simp_all
      subst this
      simp only [opV, valV, builtinV, hx, List.map_cons, List.map_nil]
      exact appA_sound hs (he _) (he _) h
    · exact h.elim
  · rename_i e k ps
    have := blsA_sound hs (RelP.map he ps.toList) h
    simp only [opV, valV]
    have e2 : (ps.toList.map fun p => (p.1, evV p.2)).toArray = ps.map fun (i, x) => (i, evV x) := by rw [← Array.toList_map]
    rwa [e2] at this
  · rename_i e ps
    have := bldA_sound (I := fun _ => True) (RelP.map he ps.toList) h
    have e2 : (ps.toList.map fun p => (p.1, evV p.2)).toArray = ps.map fun (i, x) => (i, evV x) := by rw [← Array.toList_map]
    rw [e2] at this
    obtain ⟨v, h1, a, h4, h5⟩ := this
    exact ⟨v, w, h1 w trivial, Γ, ρ, T, [], a, hs, Ext.refl rfl, h4, h5⟩
  · exact mksA_sound hs (he _) (he _) h
  · rename_i args ts
    split at h
    · rename_i x y hx
      simp only [opV, valV, builtinV, hx, List.map_cons, List.map_nil]
      exact cpyA_sound hs (he _) (he _) h
    · exact h.elim
  · simp only [opV, valV]; exact cvoA_sound hs (he _) h
  · rename_i t r
    refine mkmA_sound hs ?_ ?_ h
    · intro a ha; obtain ⟨y, rfl, rfl⟩ := getO_map a ha; exact ⟨_, rfl, he _⟩
    · intro e; cases r <;> first | rfl | cases e
  · exact mupA_sound hs (he _) (he _) (he _) h
  · exact mupA_sound hs (he _) (he _) (he _) h
  · rename_i args ts
    split at h
    · rename_i x y t rest hx ht
      simp only [opV, valV, builtinV, hx, List.map_cons, List.map_nil]
      exact mdlA_sound hs (he _) (he _) (by rw [← Array.getElem?_toList, ht]; rfl) h
    · exact h.elim
  · refine valV_mono (rdA_sound hs he h) (fun _ _ h => h.elim) (fun s ⟨v, h1, a, h4, h5⟩ => ?_) fun v ⟨a, h1, h2⟩ => ?_
    · exact ⟨v, w, h1 w (agr_self hs), Γ, ρ, T, [], a, hs, Ext.refl rfl, h4, h5⟩
    · exact ⟨Γ, ρ, T, [], a, hs, Ext.refl rfl, h1, h2⟩
end
end Go.E

set_option linter.unusedSimpArgs false
set_option linter.unusedVariables false
set_option linter.unusedSectionVars false
namespace Go.E

/-! ### Slots -/
def lkA : List (Nat × AV) → Nat → AV
  | [], _ => .any
  | (s, v) :: r, t => if t = s then v else lkA r t
def evA (G : Nat → AV) (n : Nat) (loc : List AV) (tmp : List (Nat × AV)) : Operand → AV
  | .tmp t => if t < n then loc.getD t .any else lkA tmp t
  | .const v => .p v
  | .global g => G g
  | .func f => .p (.func (.func f) #[] #[])
/-- has i moved? -/
def moved : Eff → Nat → Bool
  | [], _ => false
  | (j, b) :: es, i => (b && decide (i = j)) || moved es i
/-- nothing has moved -/
def still : Eff → Bool
  | [] => true
  | (_, b) :: es => !b && still es
/-- slots, behind a step -/
def slots (es : Eff) (l : List AV) : List AV := match still es with
  | true => l
  | false => l.map (AV.wo (moved es))
def slotsT (es : Eff) (l : List (Nat × AV)) : List (Nat × AV) := match still es with
  | true => l
  | false => l.map fun p => (p.1, p.2.wo (moved es))
/-- what has been turned of the objects that were there at the start -/
def rec1 (n i : Nat) (b : Bool) (E : Eff) : Eff := if i < n then (i, b) :: E else E
def recE (n : Nat) : Eff → Eff → Eff
  | [], E => E
  | (i, b) :: es, E => rec1 n i b (recE n es E)

abbrev AKont := List AV → List AV → List (Nat × AV) → Tbl → Eff → Prop
def putA (n : Nat) (d : Option Tmp) (v : AV) (loc : List AV) (tmp : List (Nat × AV)) (K : List AV → List (Nat × AV) → Prop) (_ : Tag K := .mk) : Prop :=
  match d with
  | none => K loc tmp
  | some d => if d < n then K (loc.set d v) tmp else K loc ((d, v) :: tmp)

/-! ### Code -/
def gvaloA (o : Option Oper) (look : Operand → AV) : AV :=
  match o with
  | some o => (match o.dst with | some t => look (.tmp t) | none => .p undef)
  | none => .p undef
def grdA (ops : List Oper) (o : Oper) (look : Operand → AV) (A B : Prop) (_ : Tag A := .mk) (_ : Tag B := .mk) : Prop :=
  match o.guard with
  | none => A
  | some (j, want) => isP (gvaloA ops[j]? look) fun v => GuardP v want A B
def opsA (P : Program) (G : Nat → AV) (N n : Nat) (ops : List Oper) : List AV → List Oper → List AV → List (Nat × AV) → Tbl → Eff → (K : AKont) → (_ : Tag K := .mk) → Prop
  | ds, [], loc, tmp, T, E, K, _ => K ds loc tmp T E
  | ds, o :: r, loc, tmp, T, E, K, _ =>
    grdA ops o (evA G n loc tmp)
      (opA P G (evA G n loc tmp) o.op o.type T fun v T' es => putA n o.dst v (slots es loc) (slotsT es tmp) fun loc tmp => opsA P G N n ops (slots es ds) r loc tmp T' (recE N es E) K)
      (putA n o.dst (.p undef) loc tmp fun loc tmp => opsA P G N n ops ds r loc tmp T E K)

/-- the state of a frame, from the start (Γ0, ρ0, T0, w0) on -/
structure Frm (G : Nat → AV) (Γ0 : Heap) (ρ0 : List BI) (T0 : Tbl) (w0 : World) (Γ : Heap) (ρ : List BI) (T : Tbl) (w : World) (E : Eff) : Prop where
  g : GOK G Γ
  st : St Γ ρ T w
  ext : Ext Γ0 ρ0 T0 w0 Γ ρ T w E
inductive RelT (Γ : Heap) (ρ : List BI) : List (Nat × AV) → List (Nat × Value) → Prop
  | nil : RelT Γ ρ [] []
  | cons {t : Nat} {a : AV} {v : Value} {r : List (Nat × AV)} {s : List (Nat × Value)} (h : Rel Γ ρ a v) (hs : RelT Γ ρ r s) : RelT Γ ρ ((t, a) :: r) ((t, v) :: s)
theorem RelT.lk {Γ : Heap} {ρ : List BI} {tmp : List (Nat × AV)} {tv : List (Nat × Value)} (h : RelT Γ ρ tmp tv) (base : Nat → Value) (t : Nat) : Rel Γ ρ (lkA tmp t) (Go.E.lk base tv t) := by
  induction h with
  | nil => exact .any _
  | cons h hs ih =>
    simp only [lkA, Go.E.lk]
    split
    · exact h
    · exact ih

theorem moved_spec {es : Eff} {i : Nat} : moved es i = true ↔ (i, true) ∈ es := by
  induction es with
  | nil => simp [moved]
  | cons e es ih =>
    obtain ⟨j, b⟩ := e
    cases b <;> simp [moved, ih]
theorem still_spec {es : Eff} (h : still es = true) (i : Nat) : moved es i = false := by
  induction es with
  | nil => rfl
  | cons e es ih =>
    obtain ⟨j, b⟩ := e
    simp only [still, Bool.and_eq_true, Bool.not_eq_true'] at h
    simp [moved, h.1, ih h.2]
theorem recE_mem {n : Nat} {es E : Eff} {x : Nat × Bool} : x ∈ recE n es E ↔ (x ∈ es ∧ x.1 < n) ∨ x ∈ E := by
  induction es with
  | nil => simp [recE]
  | cons e es ih =>
    obtain ⟨j, b⟩ := e
    simp only [recE, rec1]
    split
    · simp only [List.mem_cons, ih]
      constructor
      · rintro (rfl | h | h)
        · exact .inl ⟨.inl rfl, by assumption⟩
        · exact .inl ⟨.inr h.1, h.2⟩
        · exact .inr h
      · rintro (⟨rfl | h, h2⟩ | h)
        · exact .inl rfl
        · exact .inr (.inl ⟨h, h2⟩)
        · exact .inr (.inr h)
    · simp only [List.mem_cons, ih]
      constructor
      · rintro (h | h)
        · exact .inl ⟨.inr h.1, h.2⟩
        · exact .inr h
      · rintro (⟨rfl | h, h2⟩ | h)
        · exact absurd h2 (by assumption)
        · exact .inl ⟨h, h2⟩
        · exact .inr h

section
variable {P : Program} {G : Nat → AV} {Γ Γ' Γ0 : Heap} {ρ ρ' ρ0 : List BI} {T T' T0 : Tbl} {w w' w0 : World} {a b : AV} {u v : Value} {K : AV → Tbl → Eff → Prop} {cs : List AV} {es E : Eff}
theorem GOK.mono (h : GOK G Γ) (hle : Heap.le Γ Γ') : GOK G Γ' := fun g => (h g).mono hle (by simp)
theorem Ext.kept (h : Ext Γ ρ T w Γ' ρ' T' w' es) : Kept (moved es) ρ ρ' := fun i x hi hx => h.place i x hx fun hm => by rw [moved_spec.2 hm] at hi; cases hi
theorem Rel.step (h : Rel Γ ρ a v) (hx : Ext Γ ρ T w Γ' ρ' T' w' es) : Rel Γ' ρ' (a.wo (moved es)) v := (h.wo (ρ' := ρ') hx.kept).mono hx.le (fun _ _ h => h)
theorem Rel.stay (h : Rel Γ ρ a v) (hx : Ext Γ ρ T w Γ' ρ' T' w' es) (hs : still es = true) : Rel Γ' ρ' a v := h.mono hx.le fun i x hi => hx.place i x hi fun hm => by
  have := still_spec hs i
  rw [moved_spec.2 hm] at this; cases this
theorem slots_rel {vs : List Value} (h : RelL Γ ρ cs vs) (hx : Ext Γ ρ T w Γ' ρ' T' w' es) : RelL Γ' ρ' (slots es cs) vs := by
  unfold slots
  split
  · exact ⟨h.1, fun k a v ha hv => (h.2 k a v ha hv).stay hx (by assumption)⟩
  · exact (h.wo (ρ' := ρ') hx.kept).mono hx.le (fun _ _ h => h)
theorem slotsT_rel {tmp : List (Nat × AV)} {tv : List (Nat × Value)} (h : RelT Γ ρ tmp tv) (hx : Ext Γ ρ T w Γ' ρ' T' w' es) : RelT Γ' ρ' (slotsT es tmp) tv := by
  unfold slotsT
  split
  · induction h with
    | nil => exact .nil
    | cons h hs ih => exact .cons (h.stay hx (by assumption)) ih
  · induction h with
    | nil => exact .nil
    | cons h hs ih => exact .cons (h.step hx) ih
theorem Frm.step (h : Frm G Γ0 ρ0 T0 w0 Γ ρ T w E) (hs : St Γ' ρ' T' w') (hx : Ext Γ ρ T w Γ' ρ' T' w' es) : Frm G Γ0 ρ0 T0 w0 Γ' ρ' T' w' (recE ρ0.length es E) :=
  ⟨h.g.mono hx.le, hs, (h.ext.trans hx).more fun x hx' hl => by
    rw [recE_mem]
    rcases List.mem_append.1 hx' with h | h
    · exact .inl ⟨h, hl⟩
    · exact .inr h⟩

theorem evA_rel {n : Nat} {loc : List AV} {tmp : List (Nat × AV)} {vs : List Value} {tv : List (Nat × Value)} {base : Nat → Value} (hG : GOK G Γ) (hl : RelL Γ ρ loc vs) (ht : RelT Γ ρ tmp tv) (x : Operand) : Rel Γ ρ (evA G n loc tmp x) (ev n base vs tv x) := by
  cases x with
  | tmp t =>
    simp only [evA, ev]
    split
    · by_cases hk : t < loc.length
      · have h2 : t < vs.length := by rw [← hl.1]; exact hk
        have := hl.2 t loc[t] vs[t] (by simp [hk]) (by simp [h2])
        simpa [List.getD, hk, h2] using this
      · rw [show loc.getD t .any = .any by rw [List.getD_eq_getElem?_getD, List.getElem?_eq_none (Nat.le_of_not_lt hk)]; rfl]; exact .any _
    · exact ht.lk base t
  | const v => exact .p v
  | global g => exact (hG g).mono (Heap.le_refl _) (by simp)
  | func f => exact .p _

/-- what follows, among the machine's states -/
def LK (G : Nat → AV) (Γ0 : Heap) (ρ0 : List BI) (T0 : Tbl) (w0 : World) (K : AKont) : Kont := fun dv lv tv w =>
  ∃ (Γ : Heap) (ρ : List BI) (T : Tbl) (E : Eff) (ds loc : List AV) (tmp : List (Nat × AV)), Frm G Γ0 ρ0 T0 w0 Γ ρ T w E ∧ RelL Γ ρ ds (dv.map fun b => .pointer (some ⟨b, 0, none⟩)) ∧ RelL Γ ρ loc lv ∧ RelT Γ ρ tmp tv ∧ K ds loc tmp T E
/-- the same, at one state -/
structure At (Γ : Heap) (ρ : List BI) (ds loc : List AV) (tmp : List (Nat × AV)) (dv : List Nat) (lv : List Value) (tv : List (Nat × Value)) : Prop where
  ds : RelL Γ ρ ds (dv.map fun b => .pointer (some ⟨b, 0, none⟩))
  loc : RelL Γ ρ loc lv
  tmp : RelT Γ ρ tmp tv
theorem At.step {ds loc : List AV} {tmp : List (Nat × AV)} {dv : List Nat} {lv : List Value} {tv : List (Nat × Value)} (h : At Γ ρ ds loc tmp dv lv tv) (hx : Ext Γ ρ T w Γ' ρ' T' w' es) : At Γ' ρ' (slots es ds) (slots es loc) (slotsT es tmp) dv lv tv :=
  ⟨slots_rel h.ds hx, slots_rel h.loc hx, slotsT_rel h.tmp hx⟩

theorem putA_sound {n : Nat} {d : Option Tmp} {ds loc : List AV} {tmp : List (Nat × AV)} {dv : List Nat} {lv : List Value} {tv : List (Nat × Value)} {KA : List AV → List (Nat × AV) → Prop} (h : putA n d a loc tmp KA) (hr : Rel Γ ρ a v) (hat : At Γ ρ ds loc tmp dv lv tv)
    {KV : List Value → List (Nat × Value) → Prop} (hk : ∀ loc tmp lv tv, KA loc tmp → At Γ ρ ds loc tmp dv lv tv → KV lv tv) : putK n d v lv tv KV := by
  cases d with
  | none => exact hk _ _ _ _ h hat
  | some d =>
    simp only [putA, putK] at h ⊢
    split
    · rename_i hd; rw [if_pos hd] at h; exact hk _ _ _ _ h ⟨hat.ds, hat.loc.set hr d, hat.tmp⟩
    · rename_i hd; rw [if_neg hd] at h; exact hk _ _ _ _ h ⟨hat.ds, hat.loc, .cons hr hat.tmp⟩

theorem grdA_sound {ops : List Oper} {o : Oper} {lookA : Operand → AV} {lookV : Operand → Value} {A B A' B' : Prop} (h : grdA ops o lookA A B) (he : ∀ x, Rel Γ ρ (lookA x) (lookV x)) (ha : A → A') (hb : B → B') : grdV ops o lookV A' B' := by
  unfold grdA at h
  unfold grdV
  cases hg : o.guard with
  | none => rw [hg] at h; exact ha h
  | some jw =>
    obtain ⟨j, want⟩ := jw
    rw [hg] at h
    simp only at h ⊢
    have hr : Rel Γ ρ (gvaloA ops[j]? lookA) (gval ops j lookV) := by
      unfold gvaloA gval gvalo
      cases ops[j]? with
      | none => exact .p _
      | some o' => cases hd : o'.dst with
        | none => simp only [hd]; exact .p _
        | some t => simp only [hd]; exact he _
    have h' := isP_elim h hr
    exact ⟨fun e => ha (h'.1 e), fun e => hb (h'.2 e)⟩

theorem callV_mono {f : Value} {args : List Value} {K K' : Value → World → Prop} (h : callV P f args w K) (hk : ∀ v w, K v w → K' v w) : callV P f args w K' := by
  cases f with
  | func fn first cap =>
    cases fn with
    | func g =>
      simp only [callV] at h ⊢
      cases he : entered P g with
      | true => rw [he] at h; exact Ret.mono h hk
      | false => rw [he] at h; obtain ⟨v, w', h1, h2⟩ := h; exact ⟨v, w', h1, hk _ _ h2⟩
    | yield l => exact Yld.mono h hk
    | _ => exact h.elim
  | _ => exact h.elim
theorem opV_mono {evV : Operand → Value} {o : Op} {ty : TypeId} {K K' : Value → World → Prop} (h : opV P evV o ty w K) (hk : ∀ v w, K v w → K' v w) : opV P evV o ty w K' :=
  valV_mono h (fun _ _ h => callV_mono h hk) (fun s ⟨v, w', h1, h2⟩ => ⟨v, w', h1, hk _ _ h2⟩) (fun v h => hk _ _ h)

theorem opsA_sound {n : Nat} {base : Nat → Value} {ops : List Oper} {K : AKont} : ∀ (r : List Oper) (ds loc : List AV) (tmp : List (Nat × AV)) (dv : List Nat) (lv : List Value) (tv : List (Nat × Value)) (Γ : Heap) (ρ : List BI) (T : Tbl) (w : World) (E : Eff),
    opsA P G ρ0.length n ops ds r loc tmp T E K → Frm G Γ0 ρ0 T0 w0 Γ ρ T w E → At Γ ρ ds loc tmp dv lv tv → opsV P n base ops dv r lv tv w (LK G Γ0 ρ0 T0 w0 K)
  | [], ds, loc, tmp, dv, lv, tv, Γ, ρ, T, w, E, h, hf, ha => ⟨Γ, ρ, T, E, ds, loc, tmp, hf, ha.ds, ha.loc, ha.tmp, h⟩
  | o :: r, ds, loc, tmp, dv, lv, tv, Γ, ρ, T, w, E, h, hf, ha => by
    simp only [opsA] at h
    simp only [opsV]
    have he := evA_rel (n := n) (base := base) hf.g ha.loc ha.tmp
    refine grdA_sound h he (fun h => ?_) (fun h => ?_)
    · refine opV_mono (opA_sound hf.g hf.st he h) fun v w' h2 => ?_
      obtain ⟨Γ', ρ', T', es, a, k1, k2, k3, k4⟩ := h2
      exact putA_sound k4 k3 (ha.step k2) fun loc tmp lv tv hk hat => opsA_sound r _ _ _ _ _ _ _ _ _ _ _ hk (hf.step k1 k2) hat
    · exact putA_sound h (.p _) ha fun loc tmp lv tv hk hat => opsA_sound r _ _ _ _ _ _ _ _ _ _ _ hk hf hat

/-- a piece of code, not looked into: from whatever state of this kind on -/
def SemA (P : Program) (G : Nat → AV) (N : Nat) (ro : Option Nat) (n m : Nat) (c : Code) (ds loc : List AV) (tmp : List (Nat × AV)) (T : Tbl) (E : Eff) (Nk : AKont) (X : Nat → AKont) (R : AKont) (_ : Tag c := .mk) (_ : Tag Nk := .mk) (_ : Tag X := .mk) (_ : Tag R := .mk) : Prop :=
  ∀ (Γ0 : Heap) (ρ0 : List BI) (T0 : Tbl) (w0 : World) (Γ : Heap) (ρ : List BI) (w : World) (dv : List Nat) (lv : List Value) (tv : List (Nat × Value)), ρ0.length = N → Frm G Γ0 ρ0 T0 w0 Γ ρ T w E → At Γ ρ ds loc tmp dv lv tv →
    SemV P ro n m c dv lv tv w (mkQ (LK G Γ0 ρ0 T0 w0 Nk) (fun i => LK G Γ0 ρ0 T0 w0 (X i)) (LK G Γ0 ρ0 T0 w0 R))

def codeA (P : Program) (G : Nat → AV) (N : Nat) (ro : Option Nat) (n m : Nat) : Code → List AV → List AV → List (Nat × AV) → Tbl → Eff → (Nk : AKont) → (X : Nat → AKont) → (R : AKont) → (_ : Tag Nk := .mk) → (_ : Tag X := .mk) → (_ : Tag R := .mk) → Prop
  | .skip, ds, loc, tmp, T, E, Nk, _, _, _, _, _ => Nk ds loc tmp T E
  | .region id ops draw, ds, loc, _, T, E, Nk, X, R, _, _, _ =>
    if draw then SemA P G N ro n m (.region id ops true) ds loc [] T E Nk X R else opsA P G N n ops.toList ds ops.toList loc [] T E Nk
  | .seq a b, ds, loc, tmp, T, E, Nk, X, R, _, _, _ => codeA P G N ro n m a ds loc tmp T E (fun ds loc tmp T E => codeA P G N ro n m b ds loc tmp T E Nk X R) X R
  | .cond c t e, ds, loc, tmp, T, E, Nk, X, R, _, _, _ => bpA (evA G n loc tmp c) (codeA P G N ro n m t ds loc tmp T E Nk X R) (codeA P G N ro n m e ds loc tmp T E Nk X R)
  | .block i c, ds, loc, tmp, T, E, Nk, X, R, _, _, _ => codeA P G N ro n m c ds loc tmp T E Nk (fun j => if j = i then Nk else X j) R
  | .loop c, ds, loc, _, T, E, Nk, X, R, _, _, _ => SemA P G N ro n m (.loop c) ds loc [] T E Nk X R
  | .exit i, ds, loc, tmp, T, E, _, X, _, _, _, _ => X i ds loc tmp T E
  | .ret, ds, loc, tmp, T, E, _, _, R, _, _, _ => R ds loc tmp T E
  | .rangeFunc f ps a b, ds, loc, tmp, T, E, Nk, X, R, _, _, _ => SemA P G N ro n m (.rangeFunc f ps a b) ds loc tmp T E Nk X R
  | .scope b, ds, loc, tmp, T, E, Nk, X, R, _, _, _ => codeA P G N ro n m b ds loc tmp T E Nk X R
  | .label _, ds, loc, tmp, T, E, Nk, _, _, _, _, _ => Nk ds loc tmp T E
  | .goto l, ds, loc, tmp, T, E, Nk, X, R, _, _, _ => SemA P G N ro n m (.goto l) ds loc tmp T E Nk X R
  | .refuse y, ds, loc, tmp, T, E, Nk, X, R, _, _, _ => SemA P G N ro n m (.refuse y) ds loc tmp T E Nk X R

theorem At.clear {ds loc : List AV} {tmp : List (Nat × AV)} {dv : List Nat} {lv : List Value} {tv : List (Nat × Value)} (h : At Γ ρ ds loc tmp dv lv tv) : At Γ ρ ds loc [] dv lv [] := ⟨h.ds, h.loc, .nil⟩

/-- **WHAT IS ASKED OF CODE SUFFICES** -/
theorem codeA_sound {N n m : Nat} {ro : Option Nat} : ∀ (c : Code) (ds loc : List AV) (tmp : List (Nat × AV)) (T : Tbl) (E : Eff) (Nk : AKont) (X : Nat → AKont) (R : AKont), codeA P G N ro n m c ds loc tmp T E Nk X R → codeOK m c = true → SemA P G N ro n m c ds loc tmp T E Nk X R
  | .skip, ds, loc, tmp, T, E, Nk, X, R, h, _ => fun Γ0 ρ0 T0 w0 Γ ρ w dv lv tv hN hf ha a haa Qs hQs => wpIn_skip (hQs .normal _ _ _ _ _ haa ⟨Γ, ρ, T, E, ds, loc, tmp, hf, ha.ds, ha.loc, ha.tmp, h⟩)
  | .region id ops draw, ds, loc, tmp, T, E, Nk, X, R, h, hok => fun Γ0 ρ0 T0 w0 Γ ρ w dv lv tv hN hf ha => by
    simp only [codeA] at h
    cases draw with
    | true => exact SemV.cleared (h Γ0 ρ0 T0 w0 Γ ρ w dv lv [] hN hf ha.clear)
    | false =>
      refine codeV_sem _ _ _ _ _ _ _ _ ?_ hok
      simp only [Bool.false_eq_true, if_false] at h
      subst hN
      simp only [codeV, Bool.false_eq_true, if_false]
      exact fun base => opsA_sound _ _ _ _ _ _ _ _ _ _ _ _ h hf ha.clear
  | .seq a b, ds, loc, tmp, T, E, Nk, X, R, h, hok => fun Γ0 ρ0 T0 w0 Γ ρ w dv lv tv hN hf ha => by
    simp only [codeOK, Bool.and_eq_true] at hok
    exact SemV.seq (codeA_sound a ds loc tmp T E _ _ _ h hok.1 Γ0 ρ0 T0 w0 Γ ρ w dv lv tv hN hf ha) fun dv lv tv w ⟨Γ, ρ, T, E, ds, loc, tmp, hf, h1, h2, h3, hk⟩ =>
      codeA_sound b ds loc tmp T E Nk X R hk hok.2 Γ0 ρ0 T0 w0 Γ ρ w dv lv tv hN hf ⟨h1, h2, h3⟩
  | .cond c t e, ds, loc, tmp, T, E, Nk, X, R, h, hok => fun Γ0 ρ0 T0 w0 Γ ρ w dv lv tv hN hf ha => by
    simp only [codeOK, Bool.and_eq_true] at hok
    simp only [codeA, bpA] at h
    split at h
    · rename_i v hv
      obtain ⟨h1, h2, x, hx⟩ := h
      subst hx
      intro a haa Qs hQs
      obtain ⟨base, hb⟩ := haa.base
      have hr := evA_rel (base := base) (n := n) hf.g ha.loc ha.tmp c
      rw [hv] at hr
      have hc : a.eval c = .bool x := by rw [hb.ev]; exact hr.p_inv
      cases x with
      | true => exact wpIn_cond hc (codeA_sound t ds loc tmp T E Nk X R (h1 rfl) hok.1 Γ0 ρ0 T0 w0 Γ ρ w dv lv tv hN hf ha a haa Qs hQs)
      | false => exact wpIn_cond hc (codeA_sound e ds loc tmp T E Nk X R (h2 rfl) hok.2 Γ0 ρ0 T0 w0 Γ ρ w dv lv tv hN hf ha a haa Qs hQs)
    · exact h.elim
  | .block i c, ds, loc, tmp, T, E, Nk, X, R, h, hok => fun Γ0 ρ0 T0 w0 Γ ρ w dv lv tv hN hf ha => by
    refine SemV.block ((codeA_sound c ds loc tmp T E _ _ _ h hok Γ0 ρ0 T0 w0 Γ ρ w dv lv tv hN hf ha).mono fun e dv lv tv w hq => ?_)
    cases e with
    | exit j =>
      simp only [mkQ] at hq ⊢
      by_cases hj : j = i
      · simp only [hj, if_true] at hq ⊢; exact hq
      · simp only [hj, if_false] at hq ⊢; exact hq
    | _ => exact hq
  | .loop c, ds, loc, tmp, T, E, Nk, X, R, h, _ => fun Γ0 ρ0 T0 w0 Γ ρ w dv lv tv hN hf ha => SemV.cleared (h Γ0 ρ0 T0 w0 Γ ρ w dv lv [] hN hf ha.clear)
  | .exit i, ds, loc, tmp, T, E, Nk, X, R, h, _ => fun Γ0 ρ0 T0 w0 Γ ρ w dv lv tv hN hf ha a haa Qs hQs => wpIn_exit (hQs (.exit i) _ _ _ _ _ haa ⟨Γ, ρ, T, E, ds, loc, tmp, hf, ha.ds, ha.loc, ha.tmp, h⟩)
  | .ret, ds, loc, tmp, T, E, Nk, X, R, h, _ => fun Γ0 ρ0 T0 w0 Γ ρ w dv lv tv hN hf ha a haa Qs hQs => wpIn_ret (hQs .ret _ _ _ _ _ haa ⟨Γ, ρ, T, E, ds, loc, tmp, hf, ha.ds, ha.loc, ha.tmp, h⟩)
  | .rangeFunc f ps a b, ds, loc, tmp, T, E, Nk, X, R, h, _ => h
  | .scope c, ds, loc, tmp, T, E, Nk, X, R, h, hok => fun Γ0 ρ0 T0 w0 Γ ρ w dv lv tv hN hf ha => SemV.scope (codeA_sound c ds loc tmp T E Nk X R h hok Γ0 ρ0 T0 w0 Γ ρ w dv lv tv hN hf ha)
  | .label _, ds, loc, tmp, T, E, Nk, X, R, h, _ => fun Γ0 ρ0 T0 w0 Γ ρ w dv lv tv hN hf ha a haa Qs hQs => wpIn_label (hQs .normal _ _ _ _ _ haa ⟨Γ, ρ, T, E, ds, loc, tmp, hf, ha.ds, ha.loc, ha.tmp, h⟩)
  | .goto l, ds, loc, tmp, T, E, Nk, X, R, h, _ => h
  | .refuse y, ds, loc, tmp, T, E, Nk, X, R, h, _ => h
end
end Go.E

set_option linter.unusedSimpArgs false
set_option linter.unusedVariables false
set_option linter.unusedSectionVars false
namespace Go.E
section
variable {P : Program} {G : Nat → AV} {Γ Γ' Γ0 : Heap} {ρ ρ' ρ0 : List BI} {T T' T0 : Tbl} {w w' w0 : World} {a b : AV} {u v : Value} {K : AV → Tbl → Eff → Prop} {cs : List AV} {es E : Eff}
variable {N n m : Nat} {ro : Option Nat} {ds loc : List AV} {tmp : List (Nat × AV)} {Nk R : AKont} {X : Nat → AKont}

theorem Frm.more (h : Frm G Γ0 ρ0 T0 w0 Γ ρ T w E) {E' : Eff} (hE : ∀ x ∈ E, x ∈ E') : Frm G Γ0 ρ0 T0 w0 Γ ρ T w E' := ⟨h.g, h.st, h.ext.more fun x hx _ => hE x hx⟩

/-- **A LOOP**: I holds at the head of each round; the measure goes down -/
theorem SemA.loop {c : Code} (I : List AV → Tbl → Prop) (Ei : Eff) (μ : List AV → Tbl → Nat) (hok : codeOK m c = true) (h0 : I loc T) (hE : ∀ x ∈ E, x ∈ Ei)
    (round : ∀ loc T, I loc T → codeA P G N ro n m c ds loc [] T Ei (fun ds' loc' _ T' E' => ds' = ds ∧ I loc' T' ∧ (∀ x ∈ E', x ∈ Ei) ∧ μ loc' T' < μ loc T) X R) : SemA P G N ro n m (.loop c) ds loc [] T E Nk X R := by
  intro Γ0 ρ0 T0 w0 Γ ρ w dv lv tv hN hf ha a haa Qs hQs
  refine wpIn_loop_ghost (fun k a w => ∃ (Γ : Heap) (ρ : List BI) (T : Tbl) (loc : List AV) (dv : List Nat) (lv : List Value) (tv : List (Nat × Value)), Fits' n m dv lv tv a ∧ Frm G Γ0 ρ0 T0 w0 Γ ρ T w Ei ∧ At Γ ρ ds loc [] dv lv [] ∧ I loc T ∧ μ loc T = k)
    (μ loc T) ⟨Γ, ρ, T, loc, dv, lv, tv, haa, hf.more hE, ha.clear, h0, rfl⟩ ?_
  rintro k a w ⟨Γ, ρ, T, loc, dv, lv, tv, haa, hf, hat, hI, rfl⟩
  have hr := codeA_sound c ds loc [] T Ei _ _ _ (round loc T hI) hok Γ0 ρ0 T0 w0 Γ ρ w dv lv [] hN hf hat
  refine hr a haa.cleared _ fun e dv' lv' tv' w' a' haa' hq => ?_
  cases e with
  | normal =>
    obtain ⟨Γ', ρ', T', E', ds', loc', tmp', g1, g2, g3, g4, rfl, g5, g6, g7⟩ := hq
    exact ⟨_, g7, Γ', ρ', T', loc', dv', lv', tv', haa', g1.more g6, ⟨g2, g3, .nil⟩, g5, rfl⟩
  | exit i => exact hQs (.exit i) _ _ _ _ _ haa' hq
  | ret => exact hQs .ret _ _ _ _ _ haa' hq
  | _ => exact hq.elim

/-- the slots, by what is known of them -/
def Lc (n : Nat) : List (Nat × AV) → List AV → Prop
  | [], loc => loc.length = n
  | (i, a) :: r, loc => loc[i]? = some a ∧ Lc n r loc
def look (i : Nat) (d : AV) : List (Nat × AV) → AV
  | [] => d
  | (j, a) :: r => if i = j then a else look i d r
def mkA (g : Nat → AV) (l : List (Nat × AV)) : Nat → Nat → List AV
  | _, 0 => []
  | i, n + 1 => look i (g i) l :: mkA g l (i + 1) n
theorem mkA_get (g : Nat → AV) (l : List (Nat × AV)) : ∀ (n i k : Nat), k < n → (mkA g l i n)[k]? = some (look (i + k) (g (i + k)) l)
  | 0, _, _, h => absurd h (Nat.not_lt_zero _)
  | n + 1, i, 0, _ => by simp [mkA]
  | n + 1, i, k + 1, h => by
    rw [mkA, List.getElem?_cons_succ, mkA_get g l n (i + 1) k (by omega), show i + 1 + k = i + (k + 1) by omega]
theorem mkA_len (g : Nat → AV) (l : List (Nat × AV)) : ∀ (n i : Nat), (mkA g l i n).length = n
  | 0, _ => rfl
  | n + 1, i => by rw [mkA, List.length_cons, mkA_len g l n]
theorem Lc.len {n : Nat} : ∀ {l : List (Nat × AV)} {loc : List AV}, Lc n l loc → loc.length = n
  | [], _, h => h
  | (_, _) :: _, _, h => Lc.len h.2
theorem Lc.get {n : Nat} {loc : List AV} : ∀ {l : List (Nat × AV)}, Lc n l loc → ∀ k, k < n → loc[k]? = some (look k (loc.getD k .any) l)
  | [], h, k, hk => by
    have : k < loc.length := by rw [h]; exact hk
    simp [look, List.getD, this]
  | (j, a) :: r, h, k, hk => by
    rw [look]
    split
    · rename_i e; subst e; exact h.1
    · exact h.2.get k hk
theorem Lc.elim {n : Nat} {l : List (Nat × AV)} {loc : List AV} (h : Lc n l loc) : ∃ g, loc = mkA g l 0 n := by
  refine ⟨fun i => loc.getD i .any, List.ext_getElem? fun k => ?_⟩
  by_cases hk : k < n
  · rw [h.get k hk, mkA_get _ _ _ _ _ hk, Nat.zero_add]
  · rw [List.getElem?_eq_none (by have := h.len; omega), List.getElem?_eq_none (by rw [mkA_len]; omega)]

/-- **A LOOP**, by a state of ours: s tells the slots and the objects -/
theorem SemA.loopL {σ : Type} {c : Code} (L : σ → List (Nat × AV)) (Tb : σ → Tbl) (Q : σ → Prop) (μ : σ → Nat) (s0 : σ) (Ei : Eff) (hok : codeOK m c = true) (hQ : Q s0) (hL : Lc n (L s0) loc) (hT : T = Tb s0) (hE : ∀ x ∈ E, x ∈ Ei)
    (round : ∀ s g, Q s → codeA P G N ro n m c ds (mkA g (L s) 0 n) [] (Tb s) Ei (fun ds' loc' _ T' E' => ds' = ds ∧ (∃ s', Q s' ∧ μ s' < μ s ∧ Lc n (L s') loc' ∧ T' = Tb s') ∧ ∀ x ∈ E', x ∈ Ei) X R) : SemA P G N ro n m (.loop c) ds loc [] T E Nk X R := by
  intro Γ0 ρ0 T0 w0 Γ ρ w dv lv tv hN hf ha a haa Qs hQs
  refine wpIn_loop_ghost (fun k a w => ∃ (Γ : Heap) (ρ : List BI) (s : σ) (loc : List AV) (dv : List Nat) (lv : List Value) (tv : List (Nat × Value)), Fits' n m dv lv tv a ∧ Frm G Γ0 ρ0 T0 w0 Γ ρ (Tb s) w Ei ∧ At Γ ρ ds loc [] dv lv [] ∧ (Q s ∧ Lc n (L s) loc) ∧ μ s = k)
    (μ s0) ⟨Γ, ρ, s0, loc, dv, lv, tv, haa, hT ▸ hf.more hE, ha.clear, ⟨hQ, hL⟩, rfl⟩ ?_
  rintro k a w ⟨Γ, ρ, s, loc, dv, lv, tv, haa, hf, hat, ⟨hI, hL⟩, rfl⟩
  obtain ⟨g, rfl⟩ := hL.elim
  have hr := codeA_sound c ds _ [] (Tb s) Ei _ _ _ (round s g hI) hok Γ0 ρ0 T0 w0 Γ ρ w dv lv [] hN hf hat
  refine hr a haa.cleared _ fun e dv' lv' tv' w' a' haa' hq => ?_
  cases e with
  | normal =>
    obtain ⟨Γ', ρ', T', E', ds', loc', tmp', g1, g2, g3, g4, rfl, ⟨s', h1, h2, h3, rfl⟩, g6⟩ := hq
    exact ⟨_, h2, Γ', ρ', s', loc', dv', lv', tv', haa', g1.more g6, ⟨g2, g3, .nil⟩, ⟨h1, h3⟩, rfl⟩
  | exit i => exact hQs (.exit i) _ _ _ _ _ haa' hq
  | ret => exact hQs .ret _ _ _ _ _ haa' hq
  | _ => exact hq.elim

/-! ### Another view of the state -/
/-- what stands at k and beyond is let go -/
theorem SemA.view {c : Code} {loc' : List AV} {T' : Tbl} {ds' : List AV} {tmp' : List (Nat × AV)} (hv : ∀ (Γ0 : Heap) (ρ0 : List BI) (T0 : Tbl) (w0 : World) (Γ : Heap) (ρ : List BI) (w : World) (dv : List Nat) (lv : List Value) (tv : List (Nat × Value)), ρ0.length = N → Frm G Γ0 ρ0 T0 w0 Γ ρ T w E → At Γ ρ ds loc tmp dv lv tv →
      ∃ Γ' ρ', Frm G Γ0 ρ0 T0 w0 Γ' ρ' T' w es ∧ At Γ' ρ' ds' loc' tmp' dv lv tv) (h : SemA P G N ro n m c ds' loc' tmp' T' es Nk X R) : SemA P G N ro n m c ds loc tmp T E Nk X R := by
  intro Γ0 ρ0 T0 w0 Γ ρ w dv lv tv hN hf ha
  obtain ⟨Γ', ρ', h1, h2⟩ := hv Γ0 ρ0 T0 w0 Γ ρ w dv lv tv hN hf ha
  exact h Γ0 ρ0 T0 w0 Γ' ρ' w dv lv tv hN h1 h2

/-! ### Regions that draw their order -/
theorem AnyI.mono {ops : Array Oper} {Q : Exit → Act → World → Prop} {cl : Nat} {I J : World → Prop} (hIJ : ∀ w, I w → J w) : ∀ (f : Nat) (listed : Array Bool) (a : Act) (w : World), AnyI ro P ops Q cl I f listed a w → AnyI ro P ops Q cl J f listed a w
  | 0, _, _, _, h => ⟨fun hl => hIJ _ (h.1 hl), h.2⟩
  | f + 1, _, _, _, h => ⟨fun hl => hIJ _ (h.1 hl), h.2.1, fun i hi => wpOpIn_mono (fun a w => AnyI.mono hIJ f _ a w) (h.2.2 i hi)⟩

/-- which operations wait for i: by way of others -/
def waitsFor (ops : Array Oper) (i : Nat) : List Nat := ((List.range ops.size).foldl (fun S j => match ops[j]? with
  | none => S
  | some o => if o.after.any fun e => Region.binds .any e && (e.on == i || S.contains e.on) then j :: S else S) [])
def waitsOK (ops : Array Oper) (i : Nat) (S : List Nat) : Bool := S.all fun j => match ops[j]? with
  | none => true
  | some o => o.after.any fun e => Region.binds .any e && (e.on == i || S.contains e.on)
/-- i may float: cl, and all that stands between, is not listed -/
def blocks (ops : Array Oper) (cl i : Nat) (listed : Array Bool) : Bool :=
  let S := waitsFor ops i
  waitsOK ops i S && (S.contains cl || (match ops[cl]? with | none => true | some _ => false)) && !(listed.getD cl false) && S.all fun j => !(listed.getD j false)
def planOK3 (ops : Array Oper) (cl : Nat) (o : Option Nat) : List (Nat × Bool) → Array Bool → Bool
  | [], listed => (Region.ready .any ops listed).isEmpty
  | (i, fl) :: r, listed =>
    (if fl then (Region.ready .any ops listed).contains i && Region.free .any ops listed i && (cl != i && ((match ops[i]? with | none => false | some oi => pureOp oi.op) || blocks ops cl i listed))
     else Region.ready .any ops listed == [i] && (if r.isEmpty || some i == o then i == cl && decide (i < listed.size) else !(listed.getD cl false) && i != cl)) &&
    planOK3 ops cl o r (listed.setIfInBounds i true)

theorem AnyI.listed {ops : Array Oper} {Q : Exit → Act → World → Prop} {cl : Nat} {I J : World → Prop} : ∀ (f : Nat) (listed : Array Bool) (a : Act) (w : World), listed.getD cl false = true → AnyI ro P ops Q cl I f listed a w → AnyI ro P ops Q cl J f listed a w
  | 0, _, _, _, hl, h => ⟨fun h' => (by rw [hl] at h'; cases h'), h.2⟩
  | f + 1, listed, _, _, hl, h => ⟨fun h' => (by rw [hl] at h'; cases h'), h.2.1, fun i hi => wpOpIn_mono (fun a w => AnyI.listed f _ a w (by
      by_cases hic : i = cl
      · subst hic
        simp only [Array.getD_eq_getD_getElem?, Array.getElem?_setIfInBounds]
        by_cases hb : i < listed.size
        · simp [hb]
        · simp [hb] at hl
      · rw [getD_set_ne false hic]; exact hl)) (h.2.2 i hi)⟩

theorem AnyI_first2 {ops : Array Oper} {Q : Exit → Act → World → Prop} {I J : World → Prop} {cl i : Nat} {oi : Oper} {v : Value} (S : List Nat)
    (hcb : (∀ w, J w) ∨ ((∀ w, I w → J w) ∧ (cl ∈ S ∨ ops[cl]? = none) ∧ ∀ j ∈ S, ∀ oj, ops[j]? = some oj → ∃ e ∈ oj.after, Region.binds .any e = true ∧ (e.on = i ∨ e.on ∈ S))) (hci : cl ≠ i) (hi : ops[i]? = some oi) (hsel : ∀ (j : Nat) (o : Oper) cs b, ops[j]? = some o → o.op ≠ .select cs b) (hdef : ∀ (j : Nat) (o : Oper) c, ops[j]? = some o → o.op ≠ .defer c)
    (hQ : ∀ c a w, Q (.panic c) (a.put oi.dst v) w → Q (.panic c) a w) :
    ∀ (f : Nat) (listed : Array Bool) (a : Act) (w : World),
      (∀ j oj, ops[j]? = some oj → j ≠ i → listed.getD j true = false → (∀ e ∈ oj.after, Region.binds .any e = true → e.on ≠ i) → oi.apart ops oj = true) →
      ((∀ w, J w) ∨ (listed.getD cl false = false ∧ ∀ k ∈ S, listed.getD k false = false)) → i ∈ Region.ready .any ops listed → GivesI P ops J oi v a → AnyI ro P ops Q cl I f (listed.setIfInBounds i true) (a.put oi.dst v) w → AnyI ro P ops Q cl I (f + 1) listed a w := by
  have hIJ : ∀ (listed : Array Bool) (w : World), ((∀ w, J w) ∨ (listed.getD cl false = false ∧ ∀ k ∈ S, listed.getD k false = false)) → (listed.getD cl false = false → I w) → J w := by
    intro listed w hc h
    rcases hc with h1 | h1
    · exact h1 w
    · rcases hcb with h2 | h2
      · exact h2 w
      · exact h2.1 w (h h1.1)
  intro f
  induction f with
  | zero =>
    intro listed a w _ hc hr hy H
    have hI : listed.getD cl false = false → I w := fun hl => H.1 (by rw [getD_set_ne false (Ne.symm hci)]; exact hl)
    refine ⟨hI, fun h => (by rw [h] at hr; cases hr), fun j hj => ?_⟩
    by_cases hji : j = i
    · subst hji; exact hy.wpOp hi (hIJ _ w hc hI) H
    · have := ready_mono hj hji
      rw [H.2.1] at this
      cases this
  | succ f ih =>
    intro listed a w hfree hc hr hy H
    have hI : listed.getD cl false = false → I w := fun hl => H.1 (by rw [getD_set_ne false (Ne.symm hci)]; exact hl)
    refine ⟨hI, fun h => (by rw [h] at hr; cases hr), fun j hj => ?_⟩
    by_cases hji : j = i
    · subst hji; exact hy.wpOp hi (hIJ _ w hc hI) H
    · obtain ⟨hjun, oj, hoj, hall⟩ := mem_ready.1 hj
      have hun : listed.getD i true = false := (mem_ready.1 hr).1
      have hlst : ∀ k, listed.getD k true = false → ∀ e ∈ oj.after, Region.binds .any e = true → e.on ≠ k := by
        intro k hun e he hb heq
        have h1 := hall e he hb
        rw [heq] at h1
        by_cases hl : k < listed.size
        · simp [hl] at h1 hun; rw [hun] at h1; cases h1
        · simp [Array.getElem?_eq_none (Nat.le_of_not_lt hl)] at h1
      have hlst2 : ∀ k, listed.getD k false = false → ∀ e ∈ oj.after, Region.binds .any e = true → e.on ≠ k := by
        intro k hun e he hb heq
        have h1 := hall e he hb
        rw [heq] at h1
        by_cases hl : k < listed.size
        · simp [hl] at h1 hun; rw [hun] at h1; cases h1
        · simp [Array.getElem?_eq_none (Nat.le_of_not_lt hl)] at h1
      have hnot := hlst i hun
      have h2 := wpOp_swap hoj (hfree j oj hoj hji hjun hnot) (fun cs b => hsel i oi cs b hi) (fun cs b => hsel j oj cs b hoj) (fun c => hdef j oj c hoj) hQ hy (H.2.2 j (ready_mono hj hji))
      have hc' : (∀ w, J w) ∨ ((listed.setIfInBounds j true).getD cl false = false ∧ ∀ k ∈ S, (listed.setIfInBounds j true).getD k false = false) := by
        rcases hc with h1 | h1
        · exact .inl h1
        · rcases hcb with h3 | h3
          · exact .inl h3
          · have hjS : j ∉ S := by
              intro hjS
              obtain ⟨e, he, hb, heq | heq⟩ := h3.2.2 j hjS oj hoj
              · exact hnot e he hb heq
              · exact hlst2 _ (h1.2 _ heq) e he hb rfl
            refine .inr ⟨?_, fun k hk => ?_⟩
            · have hjc : j ≠ cl := by
                rintro rfl
                rcases h3.2.1 with h4 | h4
                · exact hjS h4
                · rw [h4] at hoj; cases hoj
              rw [getD_set_ne false hjc]; exact h1.1
            · have hjk : j ≠ k := by rintro rfl; exact hjS hk
              rw [getD_set_ne false hjk]; exact h1.2 k hk
      refine wpOpIn_mono (fun a' w' h3 => ih (listed.setIfInBounds j true) a' w' ?_ hc' (ready_mono hr (Ne.symm hji)) h3.1 ?_) h2
      · intro k ok hk hki hkun hno
        refine hfree k ok hk hki ?_ hno
        by_cases hjk : j = k
        · subst hjk; exact hjun
        · rw [getD_set_ne true hjk] at hkun; exact hkun
      · rw [Array.setIfInBounds_comm _ _ hji]
        exact h3.2

/-- a plan, as planV, but what is known of the worlds on the way may grow at each operation that turns something -/
def planW (P : Program) (n : Nat) (base : Nat → Value) (ops : List Oper) (cl : Option Nat) (I : World → Prop) (ds : List Nat) : List (Nat × Bool) → List Value → List (Nat × Value) → World → (K : Kont) → Prop
  | [], loc, tmp, w, K => K ds loc tmp w
  | (i, true) :: r, loc, tmp, w, K => planO n base ops ops[i]? loc tmp
    (fun o => floatV P (ev n base loc tmp) o.op o.type I fun v => putK n o.dst v loc tmp fun loc tmp => planW P n base ops cl I ds r loc tmp w K)
    (fun o => putK n o.dst undef loc tmp fun loc tmp => planW P n base ops cl I ds r loc tmp w K)
  | (i, false) :: r, loc, tmp, w, K => planO n base ops ops[i]? loc tmp
    (fun o => opV P (ev n base loc tmp) o.op o.type w fun v w' => putK n o.dst v loc tmp fun loc tmp => ∃ I', (r ≠ [] → some i ≠ cl → I' w' ∧ ∀ w, I' w → I w) ∧ planW P n base ops cl I' ds r loc tmp w' K)
    (fun o => putK n o.dst undef loc tmp fun loc tmp => planW P n base ops cl I ds r loc tmp w K)

theorem planW_any {Q : Exit → Act → World → Prop} {n m cl : Nat} {oc : Option Nat} {base : Nat → Value} {l : List Oper} {ds : List Nat} {K : Kont} (hsel : Region.noSelect l.toArray = true) (hdef : noDefer l.toArray = true) (hQ : ∀ c (a a' : Act) w, Q (.panic c) a w → Q (.panic c) a' w) (hall : l.all (dstIn m) = true) :
    ∀ (pl : List (Nat × Bool)) (listed : Array Bool) (I : World → Prop) (loc : List Value) (tmp : List (Nat × Value)) (w : World) (a : Act), planW P n base l oc I ds pl loc tmp w K → planOK3 l.toArray cl oc pl listed = true → (listed.getD cl false = false → I w) →
      Agree n base loc tmp a → a.tmps.size = m → a.defers = ds.map markOf →
      (∀ loc tmp w a, Agree n base loc tmp a → a.tmps.size = m → a.defers = ds.map markOf → K ds loc tmp w → Q .normal a w) → AnyI ro P l.toArray Q cl I pl.length listed a w
  | [], listed, I, loc, tmp, w, a, h, hpl, hI, ha, hs, hd, hK => by
    simp only [planOK3, List.isEmpty_iff] at hpl
    exact ⟨hI, hpl, hK loc tmp w a ha hs hd h⟩
  | (i, fl) :: r, listed, I, loc, tmp, w, a, h, hpl, hI, ha, hs, hd, hK => by
    rw [planOK3, Bool.and_eq_true] at hpl
    obtain ⟨hpl1, hpl2⟩ := hpl
    cases ho : l[i]? with
    | none => cases fl <;> (simp only [planW, ho, planO] at h)
    | some o =>
      have hoi : l.toArray[i]? = some o := by simpa using ho
      have hmem : o ∈ l := List.mem_of_getElem? ho
      have hd1 : dstIn m o = true := List.all_eq_true.1 hall o hmem
      have hdst : ∀ t, o.dst = some t → t < a.tmps.size := by rw [hs]; exact dstIn_spec hd1
      have hnext : ∀ (I' : World → Prop) v w', ((listed.setIfInBounds i true).getD cl false = false → I' w') → (putK n o.dst v loc tmp fun loc tmp => planW P n base l oc I' ds r loc tmp w' K) → AnyI ro P l.toArray Q cl I' r.length (listed.setIfInBounds i true) (a.put o.dst v) w' := by
        intro I' v w' hI' hv
        obtain ⟨loc', tmp', ha', hv'⟩ := ha.put hdst v hv
        exact planW_any hsel hdef hQ hall r _ I' loc' tmp' w' _ hv' hpl2 hI' ha' (by cases o.dst <;> simp [Act.put, hs]) (by cases o.dst <;> simp [Act.put, hd]) hK
      cases fl with
      | true =>
        simp only [planW, ho, planO] at h
        rw [← ha.ev] at h
        simp only [if_true, Bool.and_eq_true, List.contains_iff_mem, Bool.or_eq_true, Bool.not_eq_true', bne_iff_ne, ne_eq, hoi] at hpl1
        obtain ⟨⟨hp1, hp2⟩, hp4, hp3⟩ := hpl1
        have hnext' : ∀ v, (putK n o.dst v loc tmp fun loc tmp => planW P n base l oc I ds r loc tmp w K) → AnyI ro P l.toArray Q cl I r.length (listed.setIfInBounds i true) (a.put o.dst v) w := fun v hk =>
          hnext I v w (fun hl => hI (by rw [getD_set_ne false (Ne.symm hp4)] at hl; exact hl)) hk
        rcases hp3 with hp3 | hp3
        · have hgive : ∃ v, GivesI P l.toArray (fun _ => True) o v a ∧ putK n o.dst v loc tmp fun loc tmp => planW P n base l oc I ds r loc tmp w K := by
            rcases grdV_wanted h with ⟨hw, h⟩ | ⟨hw, h⟩
            · obtain ⟨v, hv, hk⟩ := floatV_run (floatV_pure hp3 h)
              exact ⟨v, .inl ⟨hw, hv⟩, hk⟩
            · exact ⟨undef, .inr ⟨hw, rfl⟩, h⟩
          obtain ⟨v, hg, hk⟩ := hgive
          exact AnyI_first2 [] (.inl fun _ => trivial) hp4 hoi (Region.noSelect_spec hsel) (noDefer_spec hdef) (fun c a w => hQ c _ _ w) r.length listed a w (fun j oj hj hne hun hno => Region.free_spec hoi hp2 j oj hj hne hun hno) (.inl fun _ => trivial) hp1 hg (hnext' v hk)
        · have hgive : ∃ v, GivesI P l.toArray I o v a ∧ putK n o.dst v loc tmp fun loc tmp => planW P n base l oc I ds r loc tmp w K := by
            rcases grdV_wanted h with ⟨hw, h⟩ | ⟨hw, h⟩
            · obtain ⟨v, hv, hk⟩ := floatV_run h
              exact ⟨v, .inl ⟨hw, hv⟩, hk⟩
            · exact ⟨undef, .inr ⟨hw, rfl⟩, h⟩
          obtain ⟨v, hg, hk⟩ := hgive
          simp only [blocks, Bool.and_eq_true, Bool.or_eq_true, Bool.not_eq_true', List.contains_iff_mem, List.all_eq_true] at hp3
          obtain ⟨⟨⟨hb1, hb2⟩, hb3⟩, hb4⟩ := hp3
          refine AnyI_first2 (waitsFor l.toArray i) (.inr ⟨fun _ h => h, ?_, fun j hj oj hoj => ?_⟩) hp4 hoi (Region.noSelect_spec hsel) (noDefer_spec hdef) (fun c a w => hQ c _ _ w) r.length listed a w (fun j oj hj hne hun hno => Region.free_spec hoi hp2 j oj hj hne hun hno) (.inr ⟨hb3, hb4⟩) hp1 hg (hnext' v hk)
          · rcases hb2 with h | h
            · exact .inl h
            · right
              split at h
              · assumption
              · cases h
          · have := List.all_eq_true.1 hb1 j hj
            rw [hoj] at this
            obtain ⟨k, hk, hk'⟩ := Array.any_eq_true.1 this
            simp only [Bool.and_eq_true, Bool.or_eq_true, beq_iff_eq, List.contains_iff_mem] at hk'
            exact ⟨_, Array.getElem_mem hk, hk'⟩
      | false =>
        simp only [Bool.false_eq_true, if_false, beq_iff_eq, Bool.and_eq_true] at hpl1
        obtain ⟨hp1, hp2⟩ := hpl1
        refine ⟨hI, fun e => (by rw [e] at hp1; cases hp1), fun j hj => ?_⟩
        rw [hp1, List.mem_singleton] at hj
        subst hj
        unfold wpOpIn
        simp only [hoi]
        simp only [planW, ho, planO] at h
        rw [← ha.ev] at h
        by_cases hcl : r = [] ∨ some j = oc
        · have hcl' : (r.isEmpty || some j == oc) = true := by
            rcases hcl with h | h
            · simp [h]
            · simp [h]
          rw [hcl', if_pos rfl, Bool.and_eq_true, beq_iff_eq, decide_eq_true_eq] at hp2
          have hset : (listed.setIfInBounds j true).getD cl false = true := by
            rw [← hp2.1]; simp [hp2.2]
          have hfin : ∀ (I' : World → Prop) v w', (putK n o.dst v loc tmp fun loc tmp => planW P n base l oc I' ds r loc tmp w' K) → AnyI ro P l.toArray Q cl I r.length (listed.setIfInBounds j true) (a.put o.dst v) w' := fun I' v w' hv =>
            (hnext I' v w' (fun hf => by rw [hset] at hf; cases hf) hv).listed _ _ _ _ hset
          rcases grdV_wanted h with ⟨hw, h⟩ | ⟨hw, h⟩
          · rw [if_pos hw]
            refine (opV_step h).wp fun v w' hv => ?_
            obtain ⟨loc', tmp', ha', I', hI', hv'⟩ := ha.put hdst v hv
            exact (planW_any hsel hdef hQ hall r _ I' loc' tmp' w' _ hv' hpl2 (fun hf => by rw [hset] at hf; cases hf) ha' (by cases o.dst <;> simp [Act.put, hs]) (by cases o.dst <;> simp [Act.put, hd]) hK).listed _ _ _ _ hset
          · rw [if_neg (by rw [hw]; simp)]
            exact ⟨fun f _ => fz_fn f, hfin I _ _ h⟩
        · have hcl' : (r.isEmpty || some j == oc) = false := by
            rw [not_or] at hcl
            simp [hcl.1, hcl.2]
          rw [hcl'] at hp2
          simp only [Bool.false_eq_true, if_false, Bool.and_eq_true, Bool.not_eq_true', bne_iff_ne, ne_eq] at hp2
          rw [not_or] at hcl
          have hfin : ∀ v w', (putK n o.dst v loc tmp fun loc tmp => ∃ I', (r ≠ [] → some j ≠ oc → I' w' ∧ ∀ w, I' w → I w) ∧ planW P n base l oc I' ds r loc tmp w' K) → AnyI ro P l.toArray Q cl I r.length (listed.setIfInBounds j true) (a.put o.dst v) w' := by
            intro v w' hv
            obtain ⟨loc', tmp', ha', I', hI', hv'⟩ := ha.put hdst v hv
            have hi' := hI' hcl.1 hcl.2
            exact (planW_any hsel hdef hQ hall r _ I' loc' tmp' w' (a.put o.dst v) hv' hpl2 (fun _ => hi'.1) ha' (by cases o.dst <;> simp [Act.put, hs]) (by cases o.dst <;> simp [Act.put, hd]) hK).mono hi'.2
          rcases grdV_wanted h with ⟨hw, h⟩ | ⟨hw, h⟩
          · rw [if_pos hw]
            exact (opV_step h).wp hfin
          · rw [if_neg (by rw [hw]; simp)]
            exact ⟨fun f _ => fz_fn f, hnext I _ _ (fun _ => hI hp2.1) h⟩
end
end Go.E

set_option linter.unusedSimpArgs false
set_option linter.unusedVariables false
set_option linter.unusedSectionVars false
namespace Go.E

/-- the kept objects alone -/
def keepO (keep : Nat → Bool) (i : Nat) (o : AObj) : AObj := match keep i with
  | true => o
  | false => .gone
def keepT (keep : Nat → Bool) (T : Tbl) : Tbl := T.mapIdx fun i o => keepO keep i o
theorem keepT_get (keep : Nat → Bool) (T : Tbl) (i : Nat) : (keepT keep T)[i]? = T[i]?.map (keepO keep i) := by simp [keepT, List.getElem?_mapIdx]
def keepOK (keep : Nat → Bool) (es : Eff) : Bool := es.all fun e => !keep e.1

def planOA (ops : List Oper) (o : Option Oper) (look : Operand → AV) (A B : Oper → Prop) (_ : Tag A := .mk) (_ : Tag B := .mk) : Prop :=
  match o with
  | none => False
  | some o => grdA ops o look (A o) (B o)
def planA (P : Program) (G : Nat → AV) (N n : Nat) (ops : List Oper) (cl : Option Nat) (keep : Nat → Bool) : List AV → List (Nat × Bool) → List AV → List (Nat × AV) → Tbl → Eff → (K : AKont) → (_ : Tag K := .mk) → Prop
  | ds, [], loc, tmp, T, E, K, _ => K ds loc tmp T E
  | ds, (i, true) :: r, loc, tmp, T, E, K, _ => planOA ops ops[i]? (evA G n loc tmp)
    (fun o => rdA P (evA G n loc tmp) o.op o.type (keepT keep T) fun v => putA n o.dst v loc tmp fun loc tmp => planA P G N n ops cl keep ds r loc tmp T E K)
    (fun o => putA n o.dst (.p undef) loc tmp fun loc tmp => planA P G N n ops cl keep ds r loc tmp T E K)
  | ds, (i, false) :: r, loc, tmp, T, E, K, _ => planOA ops ops[i]? (evA G n loc tmp)
    (fun o => opA P G (evA G n loc tmp) o.op o.type T fun v T' es => putA n o.dst v (slots es loc) (slotsT es tmp) fun loc tmp => (keepOK keep es = true ∨ r = [] ∨ some i = cl) ∧ planA P G N n ops cl keep (slots es ds) r loc tmp T' (recE N es E) K)
    (fun o => putA n o.dst (.p undef) loc tmp fun loc tmp => planA P G N n ops cl keep ds r loc tmp T E K)

section
variable {P : Program} {G : Nat → AV} {Γ Γ' Γ0 : Heap} {ρ ρ' ρ0 : List BI} {T T' T0 : Tbl} {w w' w0 : World} {a b : AV} {u v : Value} {K : AV → Tbl → Eff → Prop} {cs : List AV} {es E : Eff}
variable {N n m : Nat} {ro : Option Nat} {ds loc : List AV} {tmp : List (Nat × AV)} {Nk R : AKont} {X : Nat → AKont}

theorem keepT_live {keep : Nat → Bool} {i : Nat} {o : AObj} (h : (keepT keep T)[i]? = some o) (hl : o.live = true) : T[i]? = some o ∧ keep i = true := by
  rw [keepT_get] at h
  cases hT : T[i]? with
  | none => rw [hT] at h; cases h
  | some o' =>
    rw [hT] at h
    simp only [Option.map_some, Option.some.injEq, keepO] at h
    split at h
    · subst h; exact ⟨rfl, by assumption⟩
    · subst h; cases hl
theorem St.keepT (h : St Γ ρ T w) (keep : Nat → Bool) : St Γ ρ (keepT keep T) w := by
  refine ⟨h.of, by simp [Go.E.keepT, h.len], fun i o x h1 h2 => ?_, fun i o x b h1 hl h2 hb => ?_⟩
  · by_cases hl : o.live = true
    · exact h.obj i o x (keepT_live h1 hl).1 h2
    · cases o <;> first | exact (hl rfl).elim | trivial
  · obtain ⟨g1, g2⟩ := h.apart i o x b (keepT_live h1 hl).1 hl h2 hb
    exact ⟨g1, fun j o' y hj k1 k2 => g2 j o' y hj (keepT_live k1 k2).1 k2⟩
theorem agr_step {keep : Nat → Bool} (hx : Ext Γ ρ T w Γ' ρ' T' w' es) (hk : keepOK keep es = true) (w2 : World) (h : Agr Γ' ρ' (keepT keep T') w' w2) : Agr Γ ρ (keepT keep T) w w2 := by
  refine ⟨⟨fun b o hb => h.1.1 b o (hx.le.1 b o hb), h.1.2.1.trans hx.le.2.1, h.1.2.2.trans hx.le.2.2⟩, fun i o x b h1 hl h2 hb => ?_⟩
  obtain ⟨g1, g2⟩ := keepT_live h1 hl
  have hn : ∀ t, (i, t) ∉ es := fun t hm => by
    have := List.all_eq_true.1 hk _ hm
    simp [g2] at this
  obtain ⟨k1, o', k2, k3⟩ := hx.same i x o b g1 hl h2 hb hn
  have k4 := hx.place i x h2 (hn true)
  have := h.2 i o' x b (by rw [keepT_get, k2]; simp only [Option.map_some, keepO]; split <;> simp_all) k3 k4 hb
  rw [this, k1]

theorem planA_sound {n : Nat} {base : Nat → Value} {ops : List Oper} {cl : Option Nat} {keep : Nat → Bool} {K : AKont} : ∀ (pl : List (Nat × Bool)) (ds loc : List AV) (tmp : List (Nat × AV)) (dv : List Nat) (lv : List Value) (tv : List (Nat × Value)) (Γ : Heap) (ρ : List BI) (T : Tbl) (w : World) (E : Eff),
    planA P G ρ0.length n ops cl keep ds pl loc tmp T E K → Frm G Γ0 ρ0 T0 w0 Γ ρ T w E → At Γ ρ ds loc tmp dv lv tv → planW P n base ops cl (Agr Γ ρ (keepT keep T) w) dv pl lv tv w (LK G Γ0 ρ0 T0 w0 K)
  | [], ds, loc, tmp, dv, lv, tv, Γ, ρ, T, w, E, h, hf, ha => ⟨Γ, ρ, T, E, ds, loc, tmp, hf, ha.ds, ha.loc, ha.tmp, h⟩
  | (i, true) :: r, ds, loc, tmp, dv, lv, tv, Γ, ρ, T, w, E, h, hf, ha => by
    simp only [planA, planOA] at h
    simp only [planW, planO]
    have he := evA_rel (n := n) (base := base) hf.g ha.loc ha.tmp
    cases ho : ops[i]? with
    | none => rw [ho] at h; exact h.elim
    | some o =>
      rw [ho] at h
      simp only at h ⊢
      refine grdA_sound h he (fun h => ?_) (fun h => ?_)
      · refine valV_mono (rdA_sound (hf.st.keepT keep) he h) (fun _ _ h => h) (fun s h => FloatP.mono h (fun _ h => h) ?_) ?_
        all_goals
          rintro v ⟨a, h1, h2⟩
          exact putA_sound h2 h1 ha fun loc tmp lv tv hk hat => planA_sound r _ _ _ _ _ _ _ _ _ _ _ hk hf hat
      · exact putA_sound h (.p _) ha fun loc tmp lv tv hk hat => planA_sound r _ _ _ _ _ _ _ _ _ _ _ hk hf hat
  | (i, false) :: r, ds, loc, tmp, dv, lv, tv, Γ, ρ, T, w, E, h, hf, ha => by
    simp only [planA, planOA] at h
    simp only [planW, planO]
    have he := evA_rel (n := n) (base := base) hf.g ha.loc ha.tmp
    cases ho : ops[i]? with
    | none => rw [ho] at h; exact h.elim
    | some o =>
      rw [ho] at h
      simp only at h ⊢
      refine grdA_sound h he (fun h => ?_) (fun h => ?_)
      · refine opV_mono (opA_sound hf.g hf.st he h) fun v w' h2 => ?_
        obtain ⟨Γ', ρ', T', es, a, k1, k2, k3, k4⟩ := h2
        refine putA_sound k4 k3 (ha.step k2) fun loc tmp lv tv hk hat => ⟨Agr Γ' ρ' (keepT keep T') w', fun hr hc => ?_, planA_sound r _ _ _ _ _ _ _ _ _ _ _ hk.2 (hf.step k1 k2) hat⟩
        exact ⟨agr_self (k1.keepT keep), agr_step k2 (hk.1.resolve_right (fun h => h.elim hr hc))⟩
      · exact putA_sound h (.p _) ha fun loc tmp lv tv hk hat => planA_sound r _ _ _ _ _ _ _ _ _ _ _ hk hf hat

theorem Frm.same (h : Frm G Γ0 ρ0 T0 w0 Γ ρ T w E) (e : Alike w' w) : Frm G Γ0 ρ0 T0 w0 Γ ρ T w' E :=
  ⟨h.g, h.st.same e, ⟨h.ext.le, h.ext.place, fun i x o b h1 h2 h3 h4 h5 => by rw [e.1]; exact h.ext.same i x o b h1 h2 h3 h4 h5⟩⟩

/-- **A REGION THAT DRAWS ITS ORDER**: by a plan; the objects of keep are read all the way -/
theorem SemA.drawC {id : Nat} {ops : Array Oper} (cl : Nat) (oc : Option Nat) (keep : Nat → Bool) (pl : List (Nat × Bool)) (hm : P.follows .mixedOrders = true)
    (hok : (Region.noSelect ops && noDefer ops && ops.toList.all (dstIn m) && pl.length == ops.size && planOK3 ops cl oc pl (Array.replicate ops.size false)) = true)
    (h : planA P G N n ops.toList oc keep ds pl loc [] T E Nk) : SemA P G N ro n m (.region id ops true) ds loc tmp T E Nk X R := by
  simp only [Bool.and_eq_true, beq_iff_eq] at hok
  obtain ⟨⟨⟨⟨h1, h0⟩, h2⟩, h3⟩, h4⟩ := hok
  intro Γ0 ρ0 T0 w0 Γ ρ w dv lv tv hN hf ha
  refine SemV.cleared ?_
  intro a haa Qs hQs
  refine wpIn_mono (Q := fun e a w => ∃ dv lv tv, Fits' n m dv lv tv a ∧ mkQ (LK G Γ0 ρ0 T0 w0 Nk) (fun i => LK G Γ0 ρ0 T0 w0 (X i)) (LK G Γ0 ρ0 T0 w0 R) e dv lv tv w) ?_ (fun e a w ⟨ds, loc, tmp, hf, hq⟩ => hQs _ _ _ _ _ _ hf hq)
  have hdr : Alike { w with drawn := w.drawn + 1 } w := ⟨rfl, rfl, rfl⟩
  have hf' := hf.same hdr
  subst hN
  refine wpIn_region_any hm (AnyI.any (cl := cl) (I := Agr Γ ρ (keepT keep T) { w with drawn := w.drawn + 1 }) _ _ _ _ ?_)
  have := planW_any (P := P) (cl := cl) (oc := oc) (ro := ro) (Q := fun e a w => ∃ dv lv tv, Fits' n m dv lv tv a ∧ mkQ (LK G Γ0 ρ0 T0 w0 Nk) (fun i => LK G Γ0 ρ0 T0 w0 (X i)) (LK G Γ0 ρ0 T0 w0 R) e dv lv tv w) (l := ops.toList) (K := LK G Γ0 ρ0 T0 w0 Nk) (by simpa using h1) (by simpa using h0) (fun c a a' w ⟨ds, loc, tmp, _, hq⟩ => hq.elim) h2 pl
    (Array.replicate ops.size false) (Agr Γ ρ (keepT keep T) { w with drawn := w.drawn + 1 }) lv [] { w with drawn := w.drawn + 1 } a (planA_sound pl ds loc [] dv lv [] Γ ρ T _ E h hf' ha.clear) (by simpa using h4) (fun _ => agr_self (hf'.st.keepT keep)) haa.clear haa.size haa.defers
    (fun loc tmp w a h1 h2 h3 hk => ⟨dv, loc, tmp, ⟨⟨_, h1⟩, h2, h3⟩, hk⟩)
  rw [h3] at this
  simpa using this
theorem SemA.draw {id : Nat} {ops : Array Oper} (keep : Nat → Bool) (pl : List (Nat × Bool)) (hm : P.follows .mixedOrders = true)
    (hok : (Region.noSelect ops && noDefer ops && ops.toList.all (dstIn m) && pl.length == ops.size && planOK3 ops (clOf ops pl) none pl (Array.replicate ops.size false)) = true)
    (h : planA P G N n ops.toList none keep ds pl loc [] T E Nk) : SemA P G N ro n m (.region id ops true) ds loc tmp T E Nk X R := SemA.drawC (clOf ops pl) none keep pl hm hok h
/-- the operation cl closes the region: behind it nothing reads -/
theorem SemA.drawE {id : Nat} {ops : Array Oper} (cl : Nat) (keep : Nat → Bool) (pl : List (Nat × Bool)) (hm : P.follows .mixedOrders = true)
    (hok : (Region.noSelect ops && noDefer ops && ops.toList.all (dstIn m) && pl.length == ops.size && planOK3 ops cl (some cl) pl (Array.replicate ops.size false)) = true)
    (h : planA P G N n ops.toList (some cl) keep ds pl loc [] T E Nk) : SemA P G N ro n m (.region id ops true) ds loc tmp T E Nk X R := SemA.drawC cl (some cl) keep pl hm hok h

/-! ### What is let go -/
theorem RelT.wo {tmp : List (Nat × AV)} {tv : List (Nat × Value)} {q : Nat → Bool} (h : RelT Γ ρ tmp tv) (hk : Kept q ρ ρ') : RelT Γ ρ' (tmp.map fun p => (p.1, p.2.wo q)) tv := by
  induction h with
  | nil => exact .nil
  | cons h hs ih => exact .cons (h.wo hk) ih
theorem At.wo {dv : List Nat} {lv : List Value} {tv : List (Nat × Value)} {q : Nat → Bool} (h : At Γ ρ ds loc tmp dv lv tv) (hk : Kept q ρ ρ') : At Γ ρ' (ds.map (AV.wo q)) (loc.map (AV.wo q)) (tmp.map fun p => (p.1, p.2.wo q)) dv lv tv :=
  ⟨h.ds.wo hk, h.loc.wo hk, h.tmp.wo hk⟩
theorem RelT.mono {tmp : List (Nat × AV)} {tv : List (Nat × Value)} (h : RelT Γ ρ tmp tv) (hr : ∀ a v, Rel Γ ρ a v → Rel Γ' ρ' a v) : RelT Γ' ρ' tmp tv := by
  induction h with
  | nil => exact .nil
  | cons h hs ih => exact .cons (hr _ _ h) ih

/-- objects k and on are let go -/
theorem Frm.cut (h : Frm G Γ0 ρ0 T0 w0 Γ ρ T w E) (k : Nat) (hk : ρ0.length ≤ k) : Frm G Γ0 ρ0 T0 w0 Γ (ρ.take k) ((T.take k).map (AObj.wo (k ≤ ·))) w E := by
  obtain ⟨h1, h2⟩ := h.st.cut k
  refine ⟨h.g, h1, ⟨h.ext.le, fun i x hx hn => ?_, fun i x o b h3 h4 h5 h6 h7 => ?_⟩⟩
  · exact h2 i x (by simp; have := (List.getElem?_eq_some_iff.1 hx).1; omega) (h.ext.place i x hx hn)
  · obtain ⟨g1, o', g2, g3⟩ := h.ext.same i x o b h3 h4 h5 h6 h7
    refine ⟨g1, o'.wo (k ≤ ·), ?_, by rwa [AObj.live_wo]⟩
    have : i < k := by have := (List.getElem?_eq_some_iff.1 h5).1; omega
    rw [List.getElem?_map, List.getElem?_take_of_lt this, g2]; rfl
theorem SemA.cut {c : Code} (k : Nat) (hk : N ≤ k) (h : SemA P G N ro n m c (ds.map (AV.wo (k ≤ ·))) (loc.map (AV.wo (k ≤ ·))) (tmp.map fun p => (p.1, p.2.wo (k ≤ ·))) ((T.take k).map (AObj.wo (k ≤ ·))) E Nk X R) : SemA P G N ro n m c ds loc tmp T E Nk X R :=
  SemA.view (fun Γ0 ρ0 T0 w0 Γ ρ w dv lv tv hN hf ha => ⟨Γ, ρ.take k, hf.cut k (by omega), ha.wo (hf.st.cut k).2⟩) h

/-- **A LOOP WHOSE ROUNDS MAKE OBJECTS** that are let go at the round's end: of the table, the first k remain -/
theorem SemA.loopC {σ : Type} {c : Code} (L : σ → List (Nat × AV)) (Tb : σ → Tbl) (Q : σ → Prop) (μ : σ → Nat) (k : Nat) (s0 : σ) (Ei : Eff) (hok : codeOK m c = true) (hk : N ≤ k) (hQ : Q s0) (hL : Lc n (L s0) loc) (hT : T = Tb s0) (hE : ∀ x ∈ E, x ∈ Ei)
    (round : ∀ s g, Q s → codeA P G N ro n m c ds (mkA g (L s) 0 n) [] (Tb s) Ei (fun ds' loc' _ T' E' => ds'.map (AV.wo (k ≤ ·)) = ds ∧ (∃ s', Q s' ∧ μ s' < μ s ∧ Lc n (L s') (loc'.map (AV.wo (k ≤ ·))) ∧ (T'.take k).map (AObj.wo (k ≤ ·)) = Tb s') ∧ ∀ x ∈ E', x ∈ Ei) X R) : SemA P G N ro n m (.loop c) ds loc [] T E Nk X R := by
  intro Γ0 ρ0 T0 w0 Γ ρ w dv lv tv hN hf ha a haa Qs hQs
  refine wpIn_loop_ghost (fun k a w => ∃ (Γ : Heap) (ρ : List BI) (s : σ) (loc : List AV) (dv : List Nat) (lv : List Value) (tv : List (Nat × Value)), Fits' n m dv lv tv a ∧ Frm G Γ0 ρ0 T0 w0 Γ ρ (Tb s) w Ei ∧ At Γ ρ ds loc [] dv lv [] ∧ (Q s ∧ Lc n (L s) loc) ∧ μ s = k)
    (μ s0) ⟨Γ, ρ, s0, loc, dv, lv, tv, haa, hT ▸ hf.more hE, ha.clear, ⟨hQ, hL⟩, rfl⟩ ?_
  rintro j a w ⟨Γ, ρ, s, loc, dv, lv, tv, haa, hf, hat, ⟨hI, hL⟩, rfl⟩
  obtain ⟨g, rfl⟩ := hL.elim
  have hr := codeA_sound c ds _ [] (Tb s) Ei _ _ _ (round s g hI) hok Γ0 ρ0 T0 w0 Γ ρ w dv lv [] hN hf hat
  refine hr a haa.cleared _ fun e dv' lv' tv' w' a' haa' hq => ?_
  cases e with
  | normal =>
    obtain ⟨Γ', ρ', T', E', ds', loc', tmp', g1, g2, g3, g4, e1, ⟨s', h1, h2, h3, e2⟩, g6⟩ := hq
    have hc := (g1.more g6).cut k (by omega)
    have hw := (g1.st.cut k).2
    rw [e2] at hc
    exact ⟨_, h2, Γ', _, s', _, dv', lv', tv', haa', hc, ⟨e1 ▸ g2.wo hw, g3.wo hw, .nil⟩, ⟨h1, h3⟩, rfl⟩
  | exit i => exact hQs (.exit i) _ _ _ _ _ haa' hq
  | ret => exact hQs .ret _ _ _ _ _ haa' hq
  | _ => exact hq.elim

/-! ### What is published -/
theorem Frm.pub (h : Frm G Γ0 ρ0 T0 w0 Γ ρ T w E) {i : Nat} {o : AObj} (hT : T[i]? = some o) (hc : o.cs = some cs) (hcl : ∀ a ∈ cs, a.Clean) :
    ∃ Γ', Frm G Γ0 ρ0 T0 w0 Γ' ρ ((T.map (AObj.pub i cs)).set i .gone) w (rec1 ρ0.length i false E) ∧ ∀ a v, Rel Γ ρ a v → Rel Γ' ρ (a.pub i cs) v := by
  obtain ⟨Γ', h1, h2, h3, h4⟩ := h.st.publish hT hc hcl
  exact ⟨Γ', h.step h2 h3, h4⟩
theorem RelL.pub' {vs : List Value} {i : Nat} (h : RelL Γ ρ ds vs) (hr : ∀ a v, Rel Γ ρ a v → Rel Γ' ρ (a.pub i cs) v) : RelL Γ' ρ (ds.map (AV.pub i cs)) vs := by
  refine ⟨by simpa using h.1, fun k x y hx hy => ?_⟩
  rw [List.getElem?_map] at hx
  cases ha : ds[k]? with
  | none => rw [ha] at hx; cases hx
  | some a => rw [ha] at hx; cases hx; exact hr _ _ (h.2 k a y ha hy)
theorem SemA.pub {c : Code} (i : Nat) {o : AObj} (hT : T[i]? = some o) (hc : o.cs = some cs) (hcl : ∀ a ∈ cs, a.Clean)
    (h : SemA P G N ro n m c (ds.map (AV.pub i cs)) (loc.map (AV.pub i cs)) (tmp.map fun p => (p.1, p.2.pub i cs)) ((T.map (AObj.pub i cs)).set i .gone) (rec1 N i false E) Nk X R) : SemA P G N ro n m c ds loc tmp T E Nk X R := by
  refine SemA.view (fun Γ0 ρ0 T0 w0 Γ ρ w dv lv tv hN hf ha => ?_) h
  obtain ⟨Γ', h1, h2⟩ := hf.pub hT hc hcl
  subst hN
  refine ⟨Γ', ρ, h1, ha.ds.pub' h2, ha.loc.pub' h2, ?_⟩
  have := ha.tmp
  clear h
  induction this with
  | nil => exact .nil
  | cons h hs ih => exact .cons (h2 _ _ h) (ih ⟨ha.ds, ha.loc, hs⟩)

/-! ### A loop whose rounds end in what may be seen otherwise -/
def SeeL (G : Nat → AV) (N n : Nat) (ds loc : List AV) (T : Tbl) (E : Eff) (ds' : List AV) (L : List (Nat × AV)) (T' : Tbl) (E' : Eff) : Prop :=
  ∀ (Γ0 : Heap) (ρ0 : List BI) (T0 : Tbl) (w0 : World) (Γ : Heap) (ρ : List BI) (w : World) (dv : List Nat) (lv : List Value), ρ0.length = N → Frm G Γ0 ρ0 T0 w0 Γ ρ T w E → At Γ ρ ds loc [] dv lv [] →
    ∃ Γ' ρ' loc', Frm G Γ0 ρ0 T0 w0 Γ' ρ' T' w E' ∧ At Γ' ρ' ds' loc' [] dv lv [] ∧ Lc n L loc'
theorem SeeL.done {ds' : List AV} {L : List (Nat × AV)} {E' : Eff} (h : ds = ds' ∧ Lc n L loc ∧ T = T' ∧ ∀ x ∈ E, x ∈ E') : SeeL G N n ds loc T E ds' L T' E' := by
  obtain ⟨rfl, h1, rfl, h2⟩ := h
  exact fun Γ0 ρ0 T0 w0 Γ ρ w dv lv hN hf ha => ⟨Γ, ρ, loc, hf.more h2, ha, h1⟩
theorem SeeL.cut {ds' : List AV} {L : List (Nat × AV)} {E' : Eff} (k : Nat) (hk : N ≤ k) (h : SeeL G N n (ds.map (AV.wo (k ≤ ·))) (loc.map (AV.wo (k ≤ ·))) ((T.take k).map (AObj.wo (k ≤ ·))) E ds' L T' E') : SeeL G N n ds loc T E ds' L T' E' :=
  fun Γ0 ρ0 T0 w0 Γ ρ w dv lv hN hf ha => h Γ0 ρ0 T0 w0 Γ _ w dv lv hN (hf.cut k (by omega)) (ha.wo (hf.st.cut k).2)
theorem SeeL.pub {ds' : List AV} {L : List (Nat × AV)} {E' : Eff} (i : Nat) {o : AObj} (hT : T[i]? = some o) (hc : o.cs = some cs) (hcl : ∀ a ∈ cs, a.Clean) (h : SeeL G N n (ds.map (AV.pub i cs)) (loc.map (AV.pub i cs)) ((T.map (AObj.pub i cs)).set i .gone) (rec1 N i false E) ds' L T' E') : SeeL G N n ds loc T E ds' L T' E' := by
  intro Γ0 ρ0 T0 w0 Γ ρ w dv lv hN hf ha
  obtain ⟨Γ', h1, h2⟩ := hf.pub hT hc hcl
  subst hN
  exact h Γ0 ρ0 T0 w0 Γ' ρ w dv lv rfl h1 ⟨ha.ds.pub' h2, ha.loc.pub' h2, .nil⟩
theorem SemA.loopV {σ : Type} {c : Code} (L : σ → List (Nat × AV)) (Tb : σ → Tbl) (Q : σ → Prop) (μ : σ → Nat) (s0 : σ) (Ei : Eff) (hok : codeOK m c = true) (hQ : Q s0) (hL : Lc n (L s0) loc) (hT : T = Tb s0) (hE : ∀ x ∈ E, x ∈ Ei)
    (round : ∀ s g, Q s → codeA P G N ro n m c ds (mkA g (L s) 0 n) [] (Tb s) Ei (fun ds' loc' _ T' E' => ∃ s', Q s' ∧ μ s' < μ s ∧ SeeL G N n ds' loc' T' E' ds (L s') (Tb s') Ei) X R) : SemA P G N ro n m (.loop c) ds loc [] T E Nk X R := by
  intro Γ0 ρ0 T0 w0 Γ ρ w dv lv tv hN hf ha a haa Qs hQs
  refine wpIn_loop_ghost (fun k a w => ∃ (Γ : Heap) (ρ : List BI) (s : σ) (loc : List AV) (dv : List Nat) (lv : List Value) (tv : List (Nat × Value)), Fits' n m dv lv tv a ∧ Frm G Γ0 ρ0 T0 w0 Γ ρ (Tb s) w Ei ∧ At Γ ρ ds loc [] dv lv [] ∧ (Q s ∧ Lc n (L s) loc) ∧ μ s = k)
    (μ s0) ⟨Γ, ρ, s0, loc, dv, lv, tv, haa, hT ▸ hf.more hE, ha.clear, ⟨hQ, hL⟩, rfl⟩ ?_
  rintro j a w ⟨Γ, ρ, s, loc, dv, lv, tv, haa, hf, hat, ⟨hI, hL⟩, rfl⟩
  obtain ⟨g, rfl⟩ := hL.elim
  have hr := codeA_sound c ds _ [] (Tb s) Ei _ _ _ (round s g hI) hok Γ0 ρ0 T0 w0 Γ ρ w dv lv [] hN hf hat
  refine hr a haa.cleared _ fun e dv' lv' tv' w' a' haa' hq => ?_
  cases e with
  | normal =>
    obtain ⟨Γ', ρ', T', E', ds', loc', tmp', g1, g2, g3, g4, s', h1, h2, hv⟩ := hq
    obtain ⟨Γ2, ρ2, loc2, k1, k2, k3⟩ := hv Γ0 ρ0 T0 w0 Γ' ρ' w' dv' lv' hN g1 ⟨g2, g3, .nil⟩
    exact ⟨_, h2, Γ2, ρ2, s', loc2, dv', lv', tv', haa', k1, k2, ⟨h1, k3⟩, rfl⟩
  | exit i => exact hQs (.exit i) _ _ _ _ _ haa' hq
  | ret => exact hQs .ret _ _ _ _ _ haa' hq
  | _ => exact hq.elim

/-! ### The end of a function -/
def rsA (P : Program) (loc : List AV) (T : Tbl) : List ResultVar → (List AV → Prop) → Prop
  | [], K => K []
  | .tmp t :: r, K => rsA P loc T r fun l => K (loc.getD t .any :: l)
  | .cell t ty :: r, K => loadA P ty (loc.getD t .any) T fun v => rsA P loc T r fun l => K (v :: l)
def oneA (l : List AV) (K : AV → Prop) : Prop := match l with
  | [v] => K v
  | l => K (.tu l)
/-- what is asked of the results -/
def resA (P : Program) (rs : List ResultVar) (loc : List AV) (T : Tbl) (K : AV → Prop) : Prop := rsA P loc T rs fun l => oneA l K
def rsLt (n : Nat) : List ResultVar → Bool
  | [] => true
  | .tmp t :: r => decide (t < n) && rsLt n r
  | .cell t _ :: r => decide (t < n) && rsLt n r
/-- what is asked at the end, nothing being deferred -/
def defO (o : AObj) (A : Prop) (_ : Tag A := .mk) : Prop := match o with
  | .raw (.deferred (some [])) => A
  | _ => False
def retA (P : Program) (rs : List ResultVar) (K : AV → Tbl → Eff → Prop) : AKont := fun ds loc _ T E => match ds with
  | [] => resA P rs loc T fun v => K v T E
  | [.ptr i 0] => getO T[i]? fun o => defO o (resA P rs loc (T.set i (.raw (.deferred none))) fun v => K v (T.set i (.raw (.deferred none))) ((i, false) :: E))
  | _ => False

theorem getD_rel {vs : List Value} (h : RelL Γ ρ loc vs) (t : Nat) : Rel Γ ρ (loc.getD t .any) (vs.getD t undef) := by
  by_cases hk : t < loc.length
  · have h2 : t < vs.length := by rw [← h.1]; exact hk
    have := h.2 t loc[t] vs[t] (by simp [hk]) (by simp [h2])
    simpa [List.getD, hk, h2] using this
  · rw [show loc.getD t .any = .any by rw [List.getD_eq_getElem?_getD, List.getElem?_eq_none (Nat.le_of_not_lt hk)]; rfl]; exact .any _

def rsF (tmps : Array Value) : ResultVar → Sem Value
  | .tmp t => pure (tmps.getD t undef)
  | .cell a t => do loadVar t (← asAddr (tmps.getD a undef))
theorem rsF_tmp (tmps : Array Value) (t : Tmp) (w : World) : (rsF tmps (.tmp t)).run P w = .ok (tmps.getD t undef) w := by simp [rsF]
theorem rsF_cell {tmps : Array Value} {t : Tmp} {ty : TypeId} {p : Addr} {v : Value} (h : tmps.getD t undef = .pointer (some p)) (hv : (Instr.loadAt ty (.pointer (some p))).run P w = .ok v w) : (rsF tmps (.cell t ty)).run P w = .ok v w := by
  simp only [rsF, h, asAddr, Sem.run_bind, Sem.run_pure, Result.andThen_ok]
  simpa [Instr.loadAt, Instr.sureAddr] using hv
theorem rsF_mapM {tmps : Array Value} {x : ResultVar} {r : List ResultVar} {v : Value} {vs : List Value} (h : (rsF tmps x).run P w = .ok v w) (h' : (r.mapM (rsF tmps)).run P w = .ok vs w) : ((x :: r).mapM (rsF tmps)).run P w = .ok (v :: vs) w := by
  simp only [List.mapM_cons, Sem.run_bind, h, h', Result.andThen_ok, Sem.run_pure]

theorem rsA_run (hs : St Γ ρ T w) {lv : List Value} (hl : RelL Γ ρ loc lv) : ∀ (rs : List ResultVar) (K : List AV → Prop), rsA P loc T rs K → ∃ (l : List AV) (vs : List Value), RelL Γ ρ l vs ∧ K l ∧ l.length = rs.length ∧
    ∀ (n : Nat) (tmps : Array Value), rsLt n rs = true → (∀ t, t < n → tmps.getD t undef = lv.getD t undef) → (rs.mapM (rsF tmps)).run P w = .ok vs w
  | [], K, h => ⟨[], [], .nil, h, rfl, fun n tmps _ _ => by simp⟩
  | .tmp t :: r, K, h => by
    obtain ⟨l, vs, h1, h2, h3, h4⟩ := rsA_run hs hl r _ h
    refine ⟨_, _ :: vs, .cons (getD_rel hl t) h1, h2, by simp [h3], fun n tmps hn ht => ?_⟩
    simp only [rsLt, Bool.and_eq_true, decide_eq_true_eq] at hn
    rw [← ht t hn.1]
    exact rsF_mapM (rsF_tmp tmps t w) (h4 n tmps hn.2 ht)
  | .cell t ty :: r, K, h => by
    have h0 := loadA_sound hs (getD_rel hl t) h
    obtain ⟨p, hp, v, hv, a, ha, hk⟩ := ptrV_elim h0
    obtain ⟨l, vs, h1, h2, h3, h4⟩ := rsA_run hs hl r _ hk
    refine ⟨_, v :: vs, .cons ha h1, h2, by simp [h3], fun n tmps hn ht => ?_⟩
    simp only [rsLt, Bool.and_eq_true, decide_eq_true_eq] at hn
    have e := ht t hn.1
    rw [hp] at e
    have hv' := hv w (agr_self hs)
    cases p with
    | none => simp [Instr.loadAt, Instr.sureAddr, stuck] at hv'
    | some p => exact rsF_mapM (rsF_cell e hv') (h4 n tmps hn.2 ht)

theorem resA_sound {fn : Func} (hf : Frm G Γ0 ρ0 T0 w0 Γ ρ T w E) {lv : List Value} (hl : RelL Γ ρ loc lv) (hn : rsLt n fn.results.toList = true) (h : resA P fn.results.toList loc T fun v => K v T E) :
    ResP P fn n (Post Γ0 ρ0 T0 w0 K) [] lv w := by
  obtain ⟨l, vs, h1, h2, h3, h4⟩ := rsA_run hf.st hl _ _ h
  refine ResP.run (v := if h : vs.toArray.size = 1 then vs.toArray[0] else .tuple vs.toArray) (fun tmps ht => ?_) ?_
  · have := h4 n tmps hn ht
    have e : results fn tmps = (do
      let vs ← fn.results.mapM (rsF tmps)
      pure (if h : vs.size = 1 then vs[0] else .tuple vs)) := by
      unfold results
      congr 2
    rw [e, Array.mapM_eq_mapM_toList]
    simp [this]
  · unfold oneA at h2
    split at h2
    · obtain ⟨v, us, rfl, h5, h6⟩ := h1.uncons
      cases h6.unnil
      exact ⟨Γ, ρ, T, E, _, hf.st, hf.ext, by simpa using h5, h2⟩
    · rename_i hne
      have hv : ¬ vs.toArray.size = 1 := by
        intro hs
        have : vs.length = 1 := by simpa using hs
        rw [← h1.1] at this
        match l, this with
        | [x], _ => exact hne x rfl
      rw [dif_neg hv]
      exact ⟨Γ, ρ, T, E, _, hf.st, hf.ext, Rel.tu' h1, h2⟩
theorem retA_sound {fn : Func} (hf : Frm G Γ0 ρ0 T0 w0 Γ ρ T w E) {dv : List Nat} {lv : List Value} (hd : RelL Γ ρ ds (dv.map fun b => .pointer (some ⟨b, 0, none⟩))) (hl : RelL Γ ρ loc lv) (hn : rsLt n fn.results.toList = true) (h : retA P fn.results.toList K ds loc tmp T E) :
    ResP P fn n (Post Γ0 ρ0 T0 w0 K) dv lv w := by
  unfold retA at h
  split at h
  · have hdv : dv = [] := by have := hd.unnil; simpa using this
    subst hdv
    exact resA_sound hf hl hn h
  · rename_i i
    obtain ⟨o, hT, h⟩ := getO_elim h
    unfold defO at h
    split at h
    · obtain ⟨v, us, hv, hr, hrs⟩ := hd.uncons
      have hus := hrs.unnil
      subst hus
      obtain ⟨b, rfl, hb⟩ : ∃ b, dv = [b] ∧ v = .pointer (some ⟨b, 0, none⟩) := by
        cases dv with
        | nil => cases hv
        | cons b r => cases r with
          | nil => simp at hv; exact ⟨b, rfl, hv.symm⟩
          | cons c r => simp at hv
      subst hb
      cases hr with
      | @ptr _ _ _ _ x hx hb =>
      obtain ⟨b', g1, g2⟩ := hf.st.obj _ _ _ hT hx
      rw [hb] at g1; cases g1
      have hb' : b < w.heap.size := (Array.getElem?_eq_some_iff.1 g2).1
      refine ⟨_, run_takeDeferred g2, ?_⟩
      obtain ⟨k1, k2⟩ := hf.st.write (w' := w.putObj b (.deferred none)) hT hx rfl (.raw (.deferred none)) rfl (fun k hk => World.putObj_heap_other fun e => hk (by rw [e]; exact hb)) ⟨rfl, rfl⟩ ⟨b, hb, World.putObj_heap_same hb'⟩
      have hf' := hf.step k1 k2
      have hl' : RelL Γ ρ loc lv := hl
      have hE : Frm G Γ0 ρ0 T0 w0 Γ ρ (T.set i (.raw (.deferred none))) (w.putObj b (.deferred none)) ((i, false) :: E) := ⟨hf'.g, hf'.st, hf'.ext.more fun x hx _ => by
        rcases recE_mem.1 hx with ⟨h1, _⟩ | h1
        · simp at h1; simp [h1]
        · simp [h1]⟩
      exact resA_sound hE hl' hn h
    · exact h.elim
  · exact h.elim

theorem Ret.enterS {f : FuncId} {fn : Func} {c : Code} {args : Array Value} {Q : Value → World → Prop} (n : Nat)
    (hf : P.funcs[f]? = some fn) (hb : fn.body = some c) (hn : (args.size ≤ n ∧ n ≤ fn.ntmps))
    (hs : SemV P none n fn.ntmps c [] (args.toList ++ List.replicate (n - args.size) undef) [] w (mkQ (retQ P fn n Q) (fun _ _ _ _ _ => False) (retQ P fn n Q))) : Ret P f args w Q := by
  refine callsIn_wide (n := 0).1 (callsIn_of_wp_marks hf hb trivial ?_)
  refine hs { tmps := args ++ Array.replicate (fn.ntmps - args.size) undef, defers := [] } ⟨⟨fun _ => undef, by simp; omega, by simp; omega, fun t ht => ?_, fun t ht => ?_⟩, by simp; omega, rfl⟩ _ ?_
  · simp only [Array.getD_eq_getD_getElem?, List.getD_eq_getElem?_getD]
    by_cases h1 : t < args.size
    · rw [Array.getElem?_append_left h1, List.getElem?_append_left (by simpa using h1), Array.getElem?_toList]
    · rw [Array.getElem?_append_right (by omega), List.getElem?_append_right (by simp; omega)]
      simp only [Array.getElem?_replicate, List.getElem?_replicate, Array.length_toList]
      rw [if_pos (by omega), if_pos (by omega)]
  · simp only [Array.getD_eq_getD_getElem?, lk]
    rw [Array.getElem?_append_right (by omega), Array.getElem?_replicate]
    split <;> rfl
  · intro e ds loc tmp w a ha hq
    have key : ResP P fn n Q ds loc w → LeavesInM Fence.wide 0 P fn a.tmps (fun e w' => ∃ v, e = .returned v ∧ Q v w') a.defers .returning w := by
      intro hr
      obtain ⟨base, _, _, h3, _⟩ := ha.base
      rw [ha.defers]
      exact hr.leaves _ _ _ h3
    cases e with
    | normal => exact key hq
    | ret => exact key hq
    | _ => exact hq.elim

/-- **A FUNCTION**: what is asked of its code suffices -/
theorem CallA.enter {f : FuncId} {fn : Func} {c : Code} {args : List AV} (n : Nat) (hf : P.funcs[f]? = some fn) (hb : fn.body = some c) (hn : (args.length ≤ n ∧ n ≤ fn.ntmps)) (hok : codeOK fn.ntmps c = true) (hr : rsLt n fn.results.toList = true)
    (h : codeA P G T.length none n fn.ntmps c [] (args ++ List.replicate (n - args.length) (.p undef)) [] T [] (retA P fn.results.toList K) (fun _ _ _ _ _ _ => False) (retA P fn.results.toList K)) : CallA P G f args T K := by
  intro Γ ρ w vs hG hs ha
  have hl := ha.1
  refine Ret.enterS n hf hb ⟨by simp; omega, hn.2⟩ ?_
  have hsem := codeA_sound c _ _ _ _ _ _ _ _ h hok Γ ρ T w Γ ρ w [] (vs ++ List.replicate (n - vs.length) undef) [] hs.len ⟨hG, hs, Ext.refl rfl⟩ ⟨.nil, ha.append (by rw [hl]; have := RelL.ps (Γ := Γ) (ρ := ρ) (List.replicate (n - vs.length) undef); rwa [List.map_replicate] at this), .nil⟩
  have e : (vs.toArray.toList ++ List.replicate (n - vs.toArray.size) undef) = vs ++ List.replicate (n - vs.length) undef := by simp
  rw [e]
  refine hsem.mono fun e dv lv tv w' hq => ?_
  cases e with
  | normal => obtain ⟨Γ', ρ', T', E', ds', loc', tmp', g1, g2, g3, g4, g5⟩ := hq; exact retA_sound g1 g2 g3 hr g5
  | ret => obtain ⟨Γ', ρ', T', E', ds', loc', tmp', g1, g2, g3, g4, g5⟩ := hq; exact retA_sound g1 g2 g3 hr g5
  | exit i => obtain ⟨Γ', ρ', T', E', ds', loc', tmp', g1, g2, g3, g4, g5⟩ := hq; exact g5.elim
  | _ => exact hq.elim

/-- the end of a call, that may be seen otherwise -/
def Vw (G : Nat → AV) (T0 : Tbl) (K : AV → Tbl → Eff → Prop) (v : AV) (T : Tbl) (E : Eff) (_ : Tag K := .mk) : Prop :=
  ∀ (Γ0 : Heap) (ρ0 : List BI) (w0 : World) (Γ : Heap) (ρ : List BI) (w : World) (x : Value), St Γ0 ρ0 T0 w0 → Frm G Γ0 ρ0 T0 w0 Γ ρ T w E → Rel Γ ρ v x → Post Γ0 ρ0 T0 w0 K x w
theorem Vw.done {v : AV} (h : K v T E) : Vw G T0 K v T E := fun Γ0 ρ0 w0 Γ ρ w x _ hf hr => ⟨Γ, ρ, T, E, v, hf.st, hf.ext, hr, h⟩
/-- new objects are let go -/
theorem Vw.cut {v : AV} {l : Tbl} (h : K (v.wo (T0.length ≤ ·)) T0 E) : Vw G T0 K v (T0 ++ l) E := by
  intro Γ0 ρ0 w0 Γ ρ w x hs hf hr
  have hc := hf.cut T0.length (by rw [hs.len]; exact Nat.le_refl _)
  rw [List.take_left, hs.wf (fun i hi => by simp; omega)] at hc
  exact ⟨Γ, _, T0, E, _, hc.st, hc.ext, hr.wo (hf.st.cut T0.length).2, h⟩
theorem Vw.cut0 {v : AV} (h : K v T0 E) : Vw G T0 K v T0 E := Vw.done h
theorem Vw.cutN {v : AV} (n : Nat) (hn : T0.length ≤ n) (h : Vw G T0 K (v.wo (n ≤ ·)) ((T.take n).map (AObj.wo (n ≤ ·))) E) : Vw G T0 K v T E := by
  intro Γ0 ρ0 w0 Γ ρ w x hs hf hr
  exact h Γ0 ρ0 w0 Γ _ w x hs (hf.cut n (by rw [hs.len]; exact hn)) (hr.wo (hf.st.cut n).2)
/-- an object is published -/
theorem Vw.pub {v : AV} (i : Nat) {o : AObj} (hT : T[i]? = some o) (hc : o.cs = some cs) (hcl : ∀ a ∈ cs, a.Clean) (h : Vw G T0 K (v.pub i cs) ((T.map (AObj.pub i cs)).set i .gone) (rec1 T0.length i false E)) : Vw G T0 K v T E := by
  intro Γ0 ρ0 w0 Γ ρ w x hs hf hr
  obtain ⟨Γ', h1, h2⟩ := hf.pub hT hc hcl
  rw [hs.len] at h1
  exact h Γ0 ρ0 w0 Γ' ρ w x hs h1 (h2 _ _ hr)
theorem CallA.enterV {f : FuncId} {fn : Func} {c : Code} {args : List AV} {m : Nat} {rs : List ResultVar} (n : Nat) (hf : P.funcs[f]? = some fn) (hm : fn.ntmps = m) (hrs : fn.results.toList = rs) (hb : fn.body = some c) (hn : (args.length ≤ n ∧ n ≤ m)) (hok : codeOK m c = true) (hr : rsLt n rs = true)
    (h : codeA P G T.length none n m c [] (args ++ List.replicate (n - args.length) (.p undef)) [] T [] (retA P rs (Vw G T K)) (fun _ _ _ _ _ _ => False) (retA P rs (Vw G T K))) : CallA P G f args T K := by
  subst hm; subst hrs
  have := CallA.enter n hf hb hn hok hr h
  intro Γ ρ w vs hG hs ha
  refine (this Γ ρ w vs hG hs ha).mono fun x w' ⟨Γ', ρ', T', es, a, h1, h2, h3, h4⟩ => ?_
  exact h4 Γ ρ w Γ' ρ' w' x hs ⟨hG.mono h2.le, h1, h2⟩ h3

/-- a contract, weakened -/
theorem CallA.mono {f : FuncId} {args : List AV} {K' : AV → Tbl → Eff → Prop} (h : CallA P G f args T K) (hk : ∀ v T E, K v T E → K' v T E) : CallA P G f args T K' := by
  intro Γ ρ w vs hG hs ha
  refine (h Γ ρ w vs hG hs ha).mono fun v w' ⟨Γ', ρ', T', es, a, h1, h2, h3, h4⟩ => ⟨Γ', ρ', T', es, a, h1, h2, h3, hk _ _ _ h4⟩
/-- what the start knows of itself: no reference beyond the table -/
theorem CallA.wf {f : FuncId} {args : List AV} (h : (∀ q : Nat → Bool, (∀ i, i < T.length → q i = false) → T.map (AObj.wo q) = T ∧ args.map (AV.wo q) = args) → CallA P G f args T K) : CallA P G f args T K := by
  intro Γ ρ w vs hG hs ha
  exact h (fun q hq => ⟨hs.wf hq, ha.wo_eq (by rw [hs.len]; exact hq)⟩) Γ ρ w vs hG hs ha
/-- a contract that tells the value: the world is as it was -/
theorem CallA.det {f : FuncId} {args : List AV} {r : AV} (h : CallA P G f args T fun v T' es => v = r ∧ T' = T ∧ es = []) (hk : K r T []) : CallA P G f args T K :=
  h.mono fun v T' es ⟨h1, h2, h3⟩ => by subst h1; subst h2; subst h3; exact hk
end
end Go.E

set_option linter.unusedSimpArgs false
set_option linter.unusedVariables false
set_option linter.unusedSectionVars false
namespace Go.E
theorem moved1 (i : Nat) : moved [(i, true)] = (· == i) := by funext j; simp only [moved, Bool.true_and, Bool.or_false]; rfl
theorem slots1 (i : Nat) (l : List AV) : slots [(i, true)] l = l.map (AV.wo (· == i)) := by show l.map (AV.wo (moved [(i, true)])) = _; rw [moved1]
theorem slotsT1 (i : Nat) (l : List (Nat × AV)) : slotsT [(i, true)] l = l.map fun p => (p.1, p.2.wo (· == i)) := by show (l.map fun p => (p.1, p.2.wo (moved [(i, true)]))) = _; rw [moved1]
theorem and_self_of {p q : Prop} (h : p) : (p ∧ q) = q := by simp [h]
theorem get_app (a b : Tbl) (k : Nat) : (a ++ b)[a.length + k]? = b[k]? := by rw [List.getElem?_append_right (by omega)]; congr 1; omega
theorem get_app0 (a b : Tbl) : (a ++ b)[a.length]? = b[0]? := by rw [List.getElem?_append_right (by omega)]; congr 1; omega
theorem take_app (a b : Tbl) (k : Nat) : (a ++ b).take (a.length + k) = a ++ b.take k := by rw [List.take_append, List.take_of_length_le (by omega)]; congr 2; omega
theorem beq_app (n k j : Nat) : (n + k == n + j) = (k == j) := by rw [Bool.eq_iff_iff]; simp

set_option maxRecDepth 100000 in
theorem va :
  (∀ (t : Nat), lkA [] t = (AV.any)) ∧
  (∀ (s : Nat) (a : AV) (r : List (Nat × AV)) (t : Nat), lkA ((s, a) :: r) t = (if t = s then a else lkA r t)) ∧
  (∀ (G : Nat → AV) (n : Nat) (loc : List AV) (tmp : List (Nat × AV)) (t : Nat), evA G n loc tmp (.tmp t) = (if t < n then loc.getD t .any else lkA tmp t)) ∧
  (∀ (G : Nat → AV) (n : Nat) (loc : List AV) (tmp : List (Nat × AV)) (v : Value), evA G n loc tmp (.const v) = (.p v)) ∧
  (∀ (G : Nat → AV) (n : Nat) (loc : List AV) (tmp : List (Nat × AV)) (g : Nat), evA G n loc tmp (.global g) = (G g)) ∧
  (∀ (G : Nat → AV) (n : Nat) (loc : List AV) (tmp : List (Nat × AV)) (f : Nat), evA G n loc tmp (.func f) = (.p (.func (.func f) #[] #[]))) ∧
  (∀ (n : Nat) (a : AV) (loc : List AV) (tmp : List (Nat × AV)) (K2 : List AV → List (Nat × AV) → Prop), putA n none a loc tmp K2 = (K2 loc tmp)) ∧
  (∀ (n : Nat) (d : Tmp) (a : AV) (loc : List AV) (tmp : List (Nat × AV)) (K2 : List AV → List (Nat × AV) → Prop), putA n (some d) a loc tmp K2 = (if d < n then K2 (loc.set d a) tmp else K2 loc ((d, a) :: tmp))) ∧
  (∀ (l : List AV), slots [] l = (l)) ∧
  (∀ (i : Nat) (l : List AV), slots [(i, false)] l = (l)) ∧
  (∀ (i : Nat) (l : List AV), slots [(i, true)] l = (l.map (AV.wo (· == i)))) ∧
  (∀ (tmp : List (Nat × AV)), slotsT [] tmp = (tmp)) ∧
  (∀ (i : Nat) (tmp : List (Nat × AV)), slotsT [(i, false)] tmp = (tmp)) ∧
  (∀ (i : Nat) (tmp : List (Nat × AV)), slotsT [(i, true)] tmp = (tmp.map fun p => (p.1, p.2.wo (· == i)))) ∧
  (∀ (q : Nat → Bool) (v : Value), AV.wo q (.p v) = (.p v)) ∧
  (∀ (q : Nat → Bool), AV.wo q .any = (.any)) ∧
  (∀ (q : Nat → Bool) (cs : List AV) (off : Nat), AV.wo q (.vp cs off) = (.vp cs off)) ∧
  (∀ (q : Nat → Bool) (cs : List AV) (n : Nat), AV.wo q (.vs cs n) = (.vs cs n)) ∧
  (∀ (q : Nat → Bool) (i : Nat) (off : Nat), AV.wo q (.ptr i off) = (if q i then .any else .ptr i off)) ∧
  (∀ (q : Nat → Bool) (i : Nat) (off : Nat) (n : Nat), AV.wo q (.sl i off n) = (if q i then .any else .sl i off n)) ∧
  (∀ (q : Nat → Bool) (i : Nat), AV.wo q (.mp i) = (if q i then .any else .mp i)) ∧
  (∀ (q : Nat → Bool) (i : Nat), AV.wo q (.yl i) = (if q i then .any else .yl i)) ∧
  (∀ (q : Nat → Bool) (cs : List AV), AV.wo q (.ag cs) = (.ag (cs.map (AV.wo q)))) ∧
  (∀ (q : Nat → Bool) (cs : List AV), AV.wo q (.tu cs) = (.tu (cs.map (AV.wo q)))) ∧
  (∀ (q : Nat → Bool) (f : Nat) (cs : List AV), AV.wo q (.fn f cs) = (.fn f (cs.map (AV.wo q)))) ∧
  (∀ (q : Nat → Bool) (ty : TypeId) (a : AV), AV.wo q (.ic ty a) = (.ic ty (AV.wo q a))) ∧
  (∀ (q : Nat → Bool) (ty : TypeId) (cs : List AV), AObj.wo q (.cells ty cs) = (.cells ty (cs.map (AV.wo q)))) ∧
  (∀ (q : Nat → Bool) (ty : TypeId) (sz : Nat) (cs : List AV), AObj.wo q (.buf ty sz cs) = (.buf ty sz (cs.map (AV.wo q)))) ∧
  (∀ (q : Nat → Bool), AObj.wo q .gone = (.gone)) ∧
  (∀ (q : Nat → Bool) (hob : Obj), AObj.wo q (.raw hob) = (.raw hob)) ∧
  (∀ (q : Nat → Bool) (hob : Obj) (cs : List AV) (lv : List Value), AObj.wo q (.rcd hob cs lv) = (.rcd hob (cs.map (AV.wo q)) lv)) ∧
  (∀ (q : Nat → Bool) (ml : List (Value × AV)), AObj.wo q (.map ml) = (.map (ml.map fun e => (e.1, e.2.wo q)))) ∧
  (∀ (i : Nat) (cs : List AV) (v : Value), AV.pub i cs (.p v) = (.p v)) ∧
  (∀ (i : Nat) (cs : List AV), AV.pub i cs .any = (.any)) ∧
  (∀ (i : Nat) (cs : List AV) (l : List AV) (off : Nat), AV.pub i cs (.vp l off) = (.vp l off)) ∧
  (∀ (i : Nat) (cs : List AV) (l : List AV) (n : Nat), AV.pub i cs (.vs l n) = (.vs l n)) ∧
  (∀ (i : Nat) (cs : List AV) (j : Nat) (off : Nat), AV.pub i cs (.ptr j off) = (if j = i then .vp cs off else .ptr j off)) ∧
  (∀ (i : Nat) (cs : List AV) (j : Nat) (off : Nat) (n : Nat), AV.pub i cs (.sl j off n) = (if j = i then .vs (if off = 0 then cs else cs.drop off) n else .sl j off n)) ∧
  (∀ (i : Nat) (cs : List AV) (j : Nat), AV.pub i cs (.mp j) = (if j = i then .any else .mp j)) ∧
  (∀ (i : Nat) (cs : List AV) (j : Nat), AV.pub i cs (.yl j) = (if j = i then .any else .yl j)) ∧
  (∀ (i : Nat) (cs : List AV) (l : List AV), AV.pub i cs (.ag l) = (.ag (l.map (AV.pub i cs)))) ∧
  (∀ (i : Nat) (cs : List AV) (l : List AV), AV.pub i cs (.tu l) = (.tu (l.map (AV.pub i cs)))) ∧
  (∀ (i : Nat) (cs : List AV) (f : Nat) (l : List AV), AV.pub i cs (.fn f l) = (.fn f (l.map (AV.pub i cs)))) ∧
  (∀ (i : Nat) (cs : List AV) (ty : TypeId) (a : AV), AV.pub i cs (.ic ty a) = (.ic ty (AV.pub i cs a))) ∧
  (∀ (i : Nat) (vs : List AV) (ty : TypeId) (cs : List AV), AObj.pub i vs (.cells ty cs) = (.cells ty (cs.map (AV.pub i vs)))) ∧
  (∀ (i : Nat) (vs : List AV) (ty : TypeId) (sz : Nat) (cs : List AV), AObj.pub i vs (.buf ty sz cs) = (.buf ty sz (cs.map (AV.pub i vs)))) ∧
  (∀ (i : Nat) (vs : List AV), AObj.pub i vs .gone = (.gone)) ∧
  (∀ (i : Nat) (vs : List AV) (hob : Obj), AObj.pub i vs (.raw hob) = (.raw hob)) ∧
  (∀ (i : Nat) (vs : List AV) (hob : Obj) (cs : List AV) (lv : List Value), AObj.pub i vs (.rcd hob cs lv) = (.rcd hob (cs.map (AV.pub i vs)) lv)) ∧
  (∀ (n : Nat) (E : Eff), recE n [] E = (E)) ∧
  (∀ (n : Nat) (i : Nat) (bb : Bool) (es : Eff) (E : Eff), recE n ((i, bb) :: es) E = (rec1 n i bb (recE n es E))) ∧
  (∀ (n : Nat) (bb : Bool) (E : Eff), rec1 n n bb E = (E)) ∧
  (∀ (n : Nat) (k : Nat) (bb : Bool) (E : Eff), rec1 n (n + k) bb E = (E)) ∧
  (∀ (i : Nat) (bb : Bool) (E : Eff), rec1 0 i bb E = (E)) ∧
  (∀ (ops : List Oper) (dd : Option Tmp) (o : Op) (ty : TypeId) (pos : String) (after : Array Edge) (look : Operand → AV) (A : Prop) (B : Prop), grdA ops ⟨dd, o, ty, pos, after, none⟩ look A B = (A)) ∧
  (∀ (ops : List Oper) (dd : Option Tmp) (o : Op) (ty : TypeId) (pos : String) (after : Array Edge) (j : Nat) (bb : Bool) (look : Operand → AV) (A : Prop) (B : Prop), grdA ops ⟨dd, o, ty, pos, after, some (j, bb)⟩ look A B = (isP (gvaloA (ops[j]?) look) fun v => GuardP v bb A B)) ∧
  (∀ (d : Tmp) (o : Op) (ty : TypeId) (pos : String) (after : Array Edge) (gd : Option (Nat × Bool)) (look : Operand → AV), gvaloA (some ⟨some d, o, ty, pos, after, gd⟩) look = (look (.tmp d))) ∧
  (∀ (v : Value) (KV : Value → Prop), isP (.p v) KV = (KV v)) ∧
  (∀ (P : Program) (G : Nat → AV) (N : Nat) (n : Nat) (ops : List Oper) (ds : List AV) (loc : List AV) (tmp : List (Nat × AV)) (Tb : Tbl) (E : Eff) (K : AKont), opsA P G N n ops ds [] loc tmp Tb E K = (K ds loc tmp Tb E)) ∧
  (∀ (P : Program) (G : Nat → AV) (N : Nat) (n : Nat) (ops : List Oper) (ds : List AV) (dd : Option Tmp) (o : Op) (ty : TypeId) (pos : String) (after : Array Edge) (gd : Option (Nat × Bool)) (rs : List Oper) (loc : List AV) (tmp : List (Nat × AV)) (Tb : Tbl) (E : Eff) (K : AKont), opsA P G N n ops ds (⟨dd, o, ty, pos, after, gd⟩ :: rs) loc tmp Tb E K = (grdA ops ⟨dd, o, ty, pos, after, gd⟩ (evA G n loc tmp) (opA P G (evA G n loc tmp) o ty Tb fun v T' es => putA n dd v (slots es loc) (slotsT es tmp) fun loc tmp => opsA P G N n ops (slots es ds) rs loc tmp T' (recE N es E) K) (putA n dd (.p undef) loc tmp fun loc tmp => opsA P G N n ops ds rs loc tmp Tb E K))) ∧
  (∀ (P : Program) (G : Nat → AV) (N : Nat) (n : Nat) (ops : List Oper) (cl : Option Nat) (keep : Nat → Bool) (ds : List AV) (loc : List AV) (tmp : List (Nat × AV)) (Tb : Tbl) (E : Eff) (K : AKont), planA P G N n ops cl keep ds [] loc tmp Tb E K = (K ds loc tmp Tb E)) ∧
  (∀ (P : Program) (G : Nat → AV) (N : Nat) (n : Nat) (ops : List Oper) (cl : Option Nat) (keep : Nat → Bool) (ds : List AV) (i : Nat) (pl : List (Nat × Bool)) (loc : List AV) (tmp : List (Nat × AV)) (Tb : Tbl) (E : Eff) (K : AKont), planA P G N n ops cl keep ds ((i, true) :: pl) loc tmp Tb E K = (planOA ops ops[i]? (evA G n loc tmp) (fun o => rdA P (evA G n loc tmp) o.op o.type (keepT keep Tb) fun v => putA n o.dst v loc tmp fun loc tmp => planA P G N n ops cl keep ds pl loc tmp Tb E K) (fun o => putA n o.dst (.p undef) loc tmp fun loc tmp => planA P G N n ops cl keep ds pl loc tmp Tb E K))) ∧
  (∀ (P : Program) (G : Nat → AV) (N : Nat) (n : Nat) (ops : List Oper) (cl : Option Nat) (keep : Nat → Bool) (ds : List AV) (i : Nat) (pl : List (Nat × Bool)) (loc : List AV) (tmp : List (Nat × AV)) (Tb : Tbl) (E : Eff) (K : AKont), planA P G N n ops cl keep ds ((i, false) :: pl) loc tmp Tb E K = (planOA ops ops[i]? (evA G n loc tmp) (fun o => opA P G (evA G n loc tmp) o.op o.type Tb fun v T' es => putA n o.dst v (slots es loc) (slotsT es tmp) fun loc tmp => (keepOK keep es = true ∨ pl = [] ∨ some i = cl) ∧ planA P G N n ops cl keep (slots es ds) pl loc tmp T' (recE N es E) K) (fun o => putA n o.dst (.p undef) loc tmp fun loc tmp => planA P G N n ops cl keep ds pl loc tmp Tb E K))) ∧
  (∀ (ops : List Oper) (oper : Oper) (look : Operand → AV) (AO : Oper → Prop) (BO : Oper → Prop), planOA ops (some oper) look AO BO = (grdA ops oper look (AO oper) (BO oper))) ∧
  (∀ (Tb : Tbl) (keep : Nat → Bool) (i : Nat), (keepT keep Tb)[i]? = (Tb[i]?.map (keepO keep i))) ∧
  (∀ (keep : Nat → Bool), keepOK keep [] = (true)) ∧
  (∀ (keep : Nat → Bool) (i : Nat) (bb : Bool) (es : Eff), keepOK keep ((i, bb) :: es) = ((!keep i && keepOK keep es))) ∧
  (∀ (keep : Nat → Bool) (i : Nat) (ob : AObj), keepO keep i ob = (match keep i with | true => ob | false => .gone)) ∧
  (∀ (ob : AObj), (match true with | true => ob | false => AObj.gone) = (ob)) ∧
  (∀ (ob : AObj), (match false with | true => ob | false => AObj.gone) = (AObj.gone)) ∧
  (∀ (ob : AObj) (i : Nat) (keep : Nat → Bool), Option.map (keepO keep i) (some ob) = (some (keepO keep i ob))) ∧
  (∀ (xo : Operand) (P : Program) (ρ : Operand → AV) (ty : TypeId) (Tb : Tbl) (KA : AV → Prop), rdA P ρ (.move xo) ty Tb KA = (KA (ρ xo))) ∧
  (∀ (xo : Operand) (P : Program) (ρ : Operand → AV) (ty : TypeId) (Tb : Tbl) (KA : AV → Prop), rdA P ρ (.assign xo) ty Tb KA = (KA (ρ xo))) ∧
  (∀ (xo : Operand) (yo : Operand) (zo : Operand) (P : Program) (ρ : Operand → AV) (ty : TypeId) (Tb : Tbl) (KA : AV → Prop), rdA P ρ (.pick xo yo zo) ty Tb KA = (bpA (ρ xo) (KA (ρ yo)) (KA (ρ zo)))) ∧
  (∀ (t : Nat) (xo : Operand) (P : Program) (ρ : Operand → AV) (ty : TypeId) (Tb : Tbl) (KA : AV → Prop), rdA P ρ (.load t xo) ty Tb KA = (loadA P t (ρ xo) Tb KA)) ∧
  (∀ (xo : Operand) (P : Program) (ρ : Operand → AV) (ty : TypeId) (Tb : Tbl) (KA : AV → Prop), rdA P ρ (.nilCheck xo) ty Tb KA = (nilA (ρ xo) (KA (ρ xo)))) ∧
  (∀ (op : BinOp) (t : Nat) (xo : Operand) (yo : Operand) (u_ : TypeId) (P : Program) (ρ : Operand → AV) (ty : TypeId) (Tb : Tbl) (KA : AV → Prop), rdA P ρ (.binOp op t xo yo u_) ty Tb KA = (bin2A P op t (ρ xo) (ρ yo) xo yo Tb KA)) ∧
  (∀ (uo : UnOp) (t : Nat) (xo : Operand) (P : Program) (ρ : Operand → AV) (ty : TypeId) (Tb : Tbl) (KA : AV → Prop), rdA P ρ (.unOp uo t xo) ty Tb KA = (isP (ρ xo) fun v => unV uo v (pureK P KA) fun v => KA (.p v))) ∧
  (∀ (s : Nat) (t : Nat) (xo : Operand) (P : Program) (ρ : Operand → AV) (ty : TypeId) (Tb : Tbl) (KA : AV → Prop), rdA P ρ (.convert s t xo) ty Tb KA = (cnvA P (tk P s) (tk P t) s t (ρ xo) Tb KA)) ∧
  (∀ (t : Nat) (xo : Operand) (yo : Operand) (bb : Bool) (P : Program) (ρ : Operand → AV) (ty : TypeId) (Tb : Tbl) (KA : AV → Prop), rdA P ρ (.lookup t xo yo bb) ty Tb KA = (lokA P (tk P t) (ρ xo) (ρ yo) bb Tb KA)) ∧
  (∀ (s : Nat) (xo : Operand) (f : Nat) (P : Program) (ρ : Operand → AV) (ty : TypeId) (Tb : Tbl) (KA : AV → Prop), rdA P ρ (.fieldAddr s xo f) ty Tb KA = (fldA (tfo P s f) (ρ xo) KA)) ∧
  (∀ (t : Nat) (xo : Operand) (f : Nat) (P : Program) (ρ : Operand → AV) (ty : TypeId) (Tb : Tbl) (KA : AV → Prop), rdA P ρ (.field t xo f) ty Tb KA = (fdA P t f (ρ xo) KA)) ∧
  (∀ (t : Nat) (xo : Operand) (yo : Operand) (P : Program) (ρ : Operand → AV) (ty : TypeId) (Tb : Tbl) (KA : AV → Prop), rdA P ρ (.indexAddr t xo yo) ty Tb KA = (idxA P (tk P t) (ρ xo) (ρ yo) Tb KA)) ∧
  (∀ (t : Nat) (xo : Operand) (yo : Operand) (P : Program) (ρ : Operand → AV) (ty : TypeId) (Tb : Tbl) (KA : AV → Prop), rdA P ρ (.index t xo yo) ty Tb KA = (ieA P (tk P t) (ρ xo) (ρ yo) KA)) ∧
  (∀ (t : Nat) (xo : Operand) (lop : Option Operand) (hop : Option Operand) (mop : Option Operand) (P : Program) (ρ : Operand → AV) (ty : TypeId) (Tb : Tbl) (KA : AV → Prop), rdA P ρ (.slice t xo lop hop mop) ty Tb KA = (slcA P (tk P t) (ρ xo) (lop.map ρ) (hop.map ρ) (mop.map ρ) Tb KA)) ∧
  (∀ (xo : Operand) (i : Nat) (P : Program) (ρ : Operand → AV) (ty : TypeId) (Tb : Tbl) (KA : AV → Prop), rdA P ρ (.extract xo i) ty Tb KA = (exA (ρ xo) i KA)) ∧
  (∀ (g : Nat) (cap : Array Operand) (P : Program) (ρ : Operand → AV) (ty : TypeId) (Tb : Tbl) (KA : AV → Prop), rdA P ρ (.makeFunc (.func g) ⟨[]⟩ cap) ty Tb KA = (KA (.fn g (cap.toList.map ρ)))) ∧
  (∀ (t : Nat) (xo : Operand) (P : Program) (ρ : Operand → AV) (ty : TypeId) (Tb : Tbl) (KA : AV → Prop), rdA P ρ (.makeInterface t xo) ty Tb KA = (mkiV (tk P t) t undef fun _ => KA (.ic t (ρ xo)))) ∧
  (∀ (xo : Operand) (t : Nat) (P : Program) (ρ : Operand → AV) (ty : TypeId) (Tb : Tbl) (KA : AV → Prop), rdA P ρ (.call ⟨.builtin .len, ⟨[xo]⟩, ⟨[t]⟩⟩) ty Tb KA = (lnA (tk P t) (ρ xo) Tb KA)) ∧
  (∀ (xo : Operand) (yo : Operand) (ts : Array TypeId) (P : Program) (ρ : Operand → AV) (ty : TypeId) (Tb : Tbl) (KA : AV → Prop), rdA P ρ (.call ⟨.builtin .max, ⟨[xo, yo]⟩, ts⟩) ty Tb KA = (isP (ρ xo) fun v => isP (ρ yo) fun u => pureK P KA (Builtin.max_ ts ty #[v, u]))) ∧
  (∀ (xo : Operand) (yo : Operand) (ts : Array TypeId) (P : Program) (ρ : Operand → AV) (ty : TypeId) (Tb : Tbl) (KA : AV → Prop), rdA P ρ (.call ⟨.builtin .min, ⟨[xo, yo]⟩, ts⟩) ty Tb KA = (isP (ρ xo) fun v => isP (ρ yo) fun u => pureK P KA (Builtin.min_ ts ty #[v, u]))) ∧
  (∀ (e : TypeId) (P : Program) (G : Nat → AV) (ρ : Operand → AV) (ty : TypeId) (Tb : Tbl) (KE : AV → Tbl → Eff → Prop), opA P G ρ (.alloc e) ty Tb KE = (getO (tzr P e) fun z => KE (.ptr Tb.length 0) (Tb ++ [.cells e (z.cells.toList.map .p)]) [])) ∧
  (∀ (e : TypeId) (xo : Operand) (P : Program) (G : Nat → AV) (ρ : Operand → AV) (ty : TypeId) (Tb : Tbl) (KE : AV → Tbl → Eff → Prop), opA P G ρ (.box e xo) ty Tb KE = (getO (ρ xo).known fun cs => KE (.ptr Tb.length 0) (Tb ++ [.cells e cs]) [])) ∧
  (∀ (t : Nat) (xo : Operand) (yo : Operand) (P : Program) (G : Nat → AV) (ρ : Operand → AV) (ty : TypeId) (Tb : Tbl) (KE : AV → Tbl → Eff → Prop), opA P G ρ (.store t xo yo) ty Tb KE = (storeA P t (ρ xo) (ρ yo) Tb KE)) ∧
  (∀ (xo : Operand) (args : Array Operand) (ts : Array TypeId) (P : Program) (G : Nat → AV) (ρ : Operand → AV) (ty : TypeId) (Tb : Tbl) (KE : AV → Tbl → Eff → Prop), opA P G ρ (.call ⟨.value xo, args, ts⟩) ty Tb KE = (callA P G (ρ xo) (args.toList.map ρ) Tb KE)) ∧
  (∀ (xo : Operand) (yo : Operand) (t : Nat) (P : Program) (G : Nat → AV) (ρ : Operand → AV) (ty : TypeId) (Tb : Tbl) (KE : AV → Tbl → Eff → Prop), opA P G ρ (.call ⟨.builtin .append, ⟨[xo, yo]⟩, ⟨[t, t]⟩⟩) ty Tb KE = (appA P (tk P t) (ρ xo) (ρ yo) Tb KE)) ∧
  (∀ (e : TypeId) (k : Nat) (pr_ : List (Nat × Operand)) (P : Program) (G : Nat → AV) (ρ : Operand → AV) (ty : TypeId) (Tb : Tbl) (KE : AV → Tbl → Eff → Prop), opA P G ρ (.buildSlice e k ⟨pr_⟩) ty Tb KE = (blsA P (tk P e) k (pr_.map fun p => (p.1, ρ p.2)) Tb KE)) ∧
  (∀ (e : TypeId) (pr_ : List (Nat × Operand)) (P : Program) (G : Nat → AV) (ρ : Operand → AV) (ty : TypeId) (Tb : Tbl) (KE : AV → Tbl → Eff → Prop), opA P G ρ (.build e ⟨pr_⟩) ty Tb KE = (bldA P e (pr_.map fun p => (p.1, ρ p.2)) fun a => KE a Tb [])) ∧
  (∀ (t : Nat) (xo : Operand) (yo : Operand) (P : Program) (G : Nat → AV) (ρ : Operand → AV) (ty : TypeId) (Tb : Tbl) (KE : AV → Tbl → Eff → Prop), opA P G ρ (.makeSlice t xo yo) ty Tb KE = (mksA P (tk P t) (ρ xo) (ρ yo) Tb KE)) ∧
  (∀ (xo : Operand) (yo : Operand) (ts : Array TypeId) (P : Program) (G : Nat → AV) (ρ : Operand → AV) (ty : TypeId) (Tb : Tbl) (KE : AV → Tbl → Eff → Prop), opA P G ρ (.call ⟨.builtin .copy, ⟨[xo, yo]⟩, ts⟩) ty Tb KE = (cpyA P ts.toList (ρ xo) (ρ yo) Tb KE)) ∧
  (∀ (xo : Operand) (P : Program) (G : Nat → AV) (ρ : Operand → AV) (ty : TypeId) (Tb : Tbl) (KE : AV → Tbl → Eff → Prop), opA P G ρ (.move xo) ty Tb KE = (rdA P ρ (.move xo) ty Tb fun a => KE a Tb [])) ∧
  (∀ (xo : Operand) (P : Program) (G : Nat → AV) (ρ : Operand → AV) (ty : TypeId) (Tb : Tbl) (KE : AV → Tbl → Eff → Prop), opA P G ρ (.assign xo) ty Tb KE = (rdA P ρ (.assign xo) ty Tb fun a => KE a Tb [])) ∧
  (∀ (xo : Operand) (yo : Operand) (zo : Operand) (P : Program) (G : Nat → AV) (ρ : Operand → AV) (ty : TypeId) (Tb : Tbl) (KE : AV → Tbl → Eff → Prop), opA P G ρ (.pick xo yo zo) ty Tb KE = (rdA P ρ (.pick xo yo zo) ty Tb fun a => KE a Tb [])) ∧
  (∀ (t : Nat) (xo : Operand) (P : Program) (G : Nat → AV) (ρ : Operand → AV) (ty : TypeId) (Tb : Tbl) (KE : AV → Tbl → Eff → Prop), opA P G ρ (.load t xo) ty Tb KE = (rdA P ρ (.load t xo) ty Tb fun a => KE a Tb [])) ∧
  (∀ (xo : Operand) (P : Program) (G : Nat → AV) (ρ : Operand → AV) (ty : TypeId) (Tb : Tbl) (KE : AV → Tbl → Eff → Prop), opA P G ρ (.nilCheck xo) ty Tb KE = (rdA P ρ (.nilCheck xo) ty Tb fun a => KE a Tb [])) ∧
  (∀ (op : BinOp) (t : Nat) (xo : Operand) (yo : Operand) (u_ : TypeId) (P : Program) (G : Nat → AV) (ρ : Operand → AV) (ty : TypeId) (Tb : Tbl) (KE : AV → Tbl → Eff → Prop), opA P G ρ (.binOp op t xo yo u_) ty Tb KE = (rdA P ρ (.binOp op t xo yo u_) ty Tb fun a => KE a Tb [])) ∧
  (∀ (uo : UnOp) (t : Nat) (xo : Operand) (P : Program) (G : Nat → AV) (ρ : Operand → AV) (ty : TypeId) (Tb : Tbl) (KE : AV → Tbl → Eff → Prop), opA P G ρ (.unOp uo t xo) ty Tb KE = (rdA P ρ (.unOp uo t xo) ty Tb fun a => KE a Tb [])) ∧
  (∀ (t : Nat) (xo : Operand) (yo : Operand) (bb : Bool) (P : Program) (G : Nat → AV) (ρ : Operand → AV) (ty : TypeId) (Tb : Tbl) (KE : AV → Tbl → Eff → Prop), opA P G ρ (.lookup t xo yo bb) ty Tb KE = (rdA P ρ (.lookup t xo yo bb) ty Tb fun a => KE a Tb [])) ∧
  (∀ (s : Nat) (xo : Operand) (f : Nat) (P : Program) (G : Nat → AV) (ρ : Operand → AV) (ty : TypeId) (Tb : Tbl) (KE : AV → Tbl → Eff → Prop), opA P G ρ (.fieldAddr s xo f) ty Tb KE = (rdA P ρ (.fieldAddr s xo f) ty Tb fun a => KE a Tb [])) ∧
  (∀ (t : Nat) (xo : Operand) (f : Nat) (P : Program) (G : Nat → AV) (ρ : Operand → AV) (ty : TypeId) (Tb : Tbl) (KE : AV → Tbl → Eff → Prop), opA P G ρ (.field t xo f) ty Tb KE = (rdA P ρ (.field t xo f) ty Tb fun a => KE a Tb [])) ∧
  (∀ (t : Nat) (xo : Operand) (yo : Operand) (P : Program) (G : Nat → AV) (ρ : Operand → AV) (ty : TypeId) (Tb : Tbl) (KE : AV → Tbl → Eff → Prop), opA P G ρ (.indexAddr t xo yo) ty Tb KE = (rdA P ρ (.indexAddr t xo yo) ty Tb fun a => KE a Tb [])) ∧
  (∀ (t : Nat) (xo : Operand) (yo : Operand) (P : Program) (G : Nat → AV) (ρ : Operand → AV) (ty : TypeId) (Tb : Tbl) (KE : AV → Tbl → Eff → Prop), opA P G ρ (.index t xo yo) ty Tb KE = (rdA P ρ (.index t xo yo) ty Tb fun a => KE a Tb [])) ∧
  (∀ (t : Nat) (xo : Operand) (lop : Option Operand) (hop : Option Operand) (mop : Option Operand) (P : Program) (G : Nat → AV) (ρ : Operand → AV) (ty : TypeId) (Tb : Tbl) (KE : AV → Tbl → Eff → Prop), opA P G ρ (.slice t xo lop hop mop) ty Tb KE = (rdA P ρ (.slice t xo lop hop mop) ty Tb fun a => KE a Tb [])) ∧
  (∀ (xo : Operand) (i : Nat) (P : Program) (G : Nat → AV) (ρ : Operand → AV) (ty : TypeId) (Tb : Tbl) (KE : AV → Tbl → Eff → Prop), opA P G ρ (.extract xo i) ty Tb KE = (rdA P ρ (.extract xo i) ty Tb fun a => KE a Tb [])) ∧
  (∀ (g : Nat) (cap : Array Operand) (P : Program) (G : Nat → AV) (ρ : Operand → AV) (ty : TypeId) (Tb : Tbl) (KE : AV → Tbl → Eff → Prop), opA P G ρ (.makeFunc (.func g) ⟨[]⟩ cap) ty Tb KE = (rdA P ρ (.makeFunc (.func g) ⟨[]⟩ cap) ty Tb fun a => KE a Tb [])) ∧
  (∀ (t : Nat) (xo : Operand) (P : Program) (G : Nat → AV) (ρ : Operand → AV) (ty : TypeId) (Tb : Tbl) (KE : AV → Tbl → Eff → Prop), opA P G ρ (.makeInterface t xo) ty Tb KE = (rdA P ρ (.makeInterface t xo) ty Tb fun a => KE a Tb [])) ∧
  (∀ (xo : Operand) (t : Nat) (P : Program) (G : Nat → AV) (ρ : Operand → AV) (ty : TypeId) (Tb : Tbl) (KE : AV → Tbl → Eff → Prop), opA P G ρ (.call ⟨.builtin .len, ⟨[xo]⟩, ⟨[t]⟩⟩) ty Tb KE = (rdA P ρ (.call ⟨.builtin .len, ⟨[xo]⟩, ⟨[t]⟩⟩) ty Tb fun a => KE a Tb [])) ∧
  (∀ (xo : Operand) (yo : Operand) (ts : Array TypeId) (P : Program) (G : Nat → AV) (ρ : Operand → AV) (ty : TypeId) (Tb : Tbl) (KE : AV → Tbl → Eff → Prop), opA P G ρ (.call ⟨.builtin .max, ⟨[xo, yo]⟩, ts⟩) ty Tb KE = (rdA P ρ (.call ⟨.builtin .max, ⟨[xo, yo]⟩, ts⟩) ty Tb fun a => KE a Tb [])) ∧
  (∀ (xo : Operand) (yo : Operand) (ts : Array TypeId) (P : Program) (G : Nat → AV) (ρ : Operand → AV) (ty : TypeId) (Tb : Tbl) (KE : AV → Tbl → Eff → Prop), opA P G ρ (.call ⟨.builtin .min, ⟨[xo, yo]⟩, ts⟩) ty Tb KE = (rdA P ρ (.call ⟨.builtin .min, ⟨[xo, yo]⟩, ts⟩) ty Tb fun a => KE a Tb [])) ∧
  (∀ (P : Program) (t : Nat) (i : Nat) (off : Nat) (Tb : Tbl) (KA : AV → Prop), loadA P t (.ptr i off) Tb KA = (csA Tb[i]? fun cs => getA (tak P t) (tsz P t) cs off KA)) ∧
  (∀ (P : Program) (t : Nat) (cs : List AV) (off : Nat) (Tb : Tbl) (KA : AV → Prop), loadA P t (.vp cs off) Tb KA = (getA (tak P t) (tsz P t) cs off KA)) ∧
  (∀ (e : TypeId) (cs : List AV) (KC : List AV → Prop), csA (some (.cells e cs)) KC = (KC cs)) ∧
  (∀ (e : TypeId) (sz : Nat) (cs : List AV) (KC : List AV → Prop), csA (some (.buf e sz cs)) KC = (KC cs)) ∧
  (∀ (e : TypeId) (cs : List AV) (A : Prop), celA (some (.cells e cs)) A = (A)) ∧
  (∀ (n : Nat) (cs : List AV) (off : Nat) (KA : AV → Prop), getA (some false) n cs off KA = (getO cs[off]? KA)) ∧
  (∀ (n : Nat) (cs : List AV) (off : Nat) (KA : AV → Prop), getA (some true) n cs off KA = ((0 < n ∧ off + n ≤ cs.length) ∧ KA (.ag ((cs.drop off).take n)))) ∧
  (∀ (a : AV) (KA : AV → Prop), getO (some a) KA = (KA a)) ∧
  (∀ (cs : List AV) (KC : List AV → Prop), getO (some cs) KC = (KC cs)) ∧
  (∀ (v : Value) (KV : Value → Prop), getO (some v) KV = (KV v)) ∧
  (∀ (ob : AObj) (KO : AObj→Prop), getO (some ob) KO = (KO ob)) ∧
  (∀ (p2 : Nat×TypeId) (KP : Nat×TypeId→Prop), getO (some p2) KP = (KP p2)) ∧
  (∀ (lv : List Value) (KL : List Value→Prop), getO (some lv) KL = (KL lv)) ∧
  (∀ (by_ : UInt8) (KB : UInt8→Prop), getO (some by_) KB = (KB by_)) ∧
  (∀ (v : Value) (A : Prop) (B : Prop), bpA (.p v) A B = (CondP v A B)) ∧
  (∀ (i : Nat) (off : Nat) (A : Prop), nilA (.ptr i off) A = (A)) ∧
  (∀ (cs : List AV) (off : Nat) (A : Prop), nilA (.vp cs off) A = (A)) ∧
  (∀ (k : Nat) (i : Nat) (off : Nat) (KA : AV → Prop), fldA (some k) (.ptr i off) KA = (KA (.ptr i (off + k)))) ∧
  (∀ (k : Nat) (cs : List AV) (off : Nat) (KA : AV → Prop), fldA (some k) (.vp cs off) KA = (KA (.vp cs (off + k)))) ∧
  (∀ (P : Program) (e : TypeId) (a : AV) (b : AV) (Tb : Tbl) (KA : AV → Prop), idxA P (.slice e) a b Tb KA = (if tsz P e = 0 then False else ixA (tsz P e) a b Tb KA)) ∧
  (∀ (P : Program) (n : Nat) (e : TypeId) (a : AV) (b : AV) (Tb : Tbl) (KA : AV → Prop), idxA P (.array n e) a b Tb KA = (if tsz P e = 0 then False else ixaA (tsz P e) n a b KA)) ∧
  (∀ (sz : Nat) (j : Nat) (off : Nat) (n : Nat) (ik : IntKind) (z : Int) (Tb : Tbl) (KA : AV → Prop), ixA sz (.sl j off n) (.p (.int ik z)) Tb KA = (csA Tb[j]? fun cs => (0 ≤ z ∧ z < n ∧ cs ≠ []) ∧ KA (.ptr j (off + z.toNat * sz)))) ∧
  (∀ (sz : Nat) (cs : List AV) (n : Nat) (ik : IntKind) (z : Int) (Tb : Tbl) (KA : AV → Prop), ixA sz (.vs cs n) (.p (.int ik z)) Tb KA = ((0 ≤ z ∧ z < n ∧ cs ≠ []) ∧ KA (.vp cs (z.toNat * sz)))) ∧
  (∀ (sz : Nat) (n : Nat) (j : Nat) (off : Nat) (ik : IntKind) (z : Int) (KA : AV → Prop), ixaA sz n (.ptr j off) (.p (.int ik z)) KA = ((0 ≤ z ∧ z < n) ∧ KA (.ptr j (off + z.toNat * sz)))) ∧
  (∀ (sz : Nat) (n : Nat) (cs : List AV) (off : Nat) (ik : IntKind) (z : Int) (KA : AV → Prop), ixaA sz n (.vp cs off) (.p (.int ik z)) KA = ((0 ≤ z ∧ z < n) ∧ KA (.vp cs (off + z.toNat * sz)))) ∧
  (∀ (P : Program) (t : Nat) (f : Nat) (a : AV) (KA : AV → Prop), fdA P t f a KA = (getO (tff P t f) fun p => agA a fun cs => getA (tak P p.2) (tsz P p.2) cs p.1 KA)) ∧
  (∀ (cs : List AV) (KC : List AV → Prop), agA (.ag cs) KC = (KC cs)) ∧
  (∀ (va : Array Value) (KC : List AV → Prop), agA (.p (.agg va)) KC = (KC (va.toList.map .p))) ∧
  (∀ (P : Program) (n : Nat) (e : TypeId) (a : AV) (ik : IntKind) (z : Int) (KA : AV → Prop), ieA P (.array n e) a (.p (.int ik z)) KA = ((0 ≤ z ∧ z < n) ∧ agA a fun cs => if tsz P e = 0 then False else getA (tak P e) (tsz P e) cs (z.toNat * tsz P e) KA)) ∧
  (∀ (P : Program) (sb : ByteArray) (ik : IntKind) (z : Int) (KA : AV → Prop), ieA P .string (.p (.string sb)) (.p (.int ik z)) KA = (0 ≤ z ∧ getO sb[z.toNat]? fun b => KA (.p (.int .u8 b.toNat)))) ∧
  (∀ (cs : List AV) (i : Nat) (KA : AV → Prop), exA (.tu cs) i KA = (getO cs[i]? KA)) ∧
  (∀ (v : Value) (i : Nat) (KA : AV → Prop), exA (.p v) i KA = (extV v i fun v => KA (.p v))) ∧
  (∀ (s : Nat) (ad : Option Addr) (n : Nat) (k : Nat) (Tb : Tbl) (KA : AV → Prop), lnA (.slice s) (.p (.slice ad n k)) Tb KA = (KA (.p (.int .i64 n)))) ∧
  (∀ (s : Nat) (i : Nat) (off : Nat) (n : Nat) (Tb : Tbl) (KA : AV → Prop), lnA (.slice s) (.sl i off n) Tb KA = (KA (.p (.int .i64 n)))) ∧
  (∀ (s : Nat) (cs : List AV) (n : Nat) (Tb : Tbl) (KA : AV → Prop), lnA (.slice s) (.vs cs n) Tb KA = (KA (.p (.int .i64 n)))) ∧
  (∀ (sb : ByteArray) (Tb : Tbl) (KA : AV → Prop), lnA .string (.p (.string sb)) Tb KA = (KA (.p (.int .i64 sb.size)))) ∧
  (∀ (n : Nat) (s : Nat) (a : AV) (Tb : Tbl) (KA : AV → Prop), lnA (.array n s) a Tb KA = (KA (.p (.int .i64 n)))) ∧
  (∀ (P : Program) (op : BinOp) (t : Nat) (u : Value) (v : Value) (xo : Operand) (yo : Operand) (KA : AV → Prop), binA P op t (.p u) (.p v) xo yo KA = (binV P op t u v xo yo (pureK P KA) fun v => KA (.p v))) ∧
  (∀ (P : Program) (op : BinOp) (t : Nat) (i : Nat) (off : Nat) (xo : Operand) (yo : Operand) (KA : AV → Prop), binA P op t (.ptr i off) (.p (.pointer none)) xo yo KA = (nilK (tk P t) op KA)) ∧
  (∀ (P : Program) (op : BinOp) (t : Nat) (cs : List AV) (off : Nat) (xo : Operand) (yo : Operand) (KA : AV → Prop), binA P op t (.vp cs off) (.p (.pointer none)) xo yo KA = (nilK (tk P t) op KA)) ∧
  (∀ (P : Program) (op : BinOp) (t : Nat) (i : Nat) (xo : Operand) (yo : Operand) (KA : AV → Prop), binA P op t (.mp i) (.p (.map none)) xo yo KA = (nilM (tk P t) op KA)) ∧
  (∀ (s : Nat) (KA : AV → Prop), nilK (.pointer s) .eql KA = (KA (.p (.bool false)))) ∧
  (∀ (s : Nat) (KA : AV → Prop), nilK (.pointer s) .neq KA = (KA (.p (.bool true)))) ∧
  (∀ (s : Nat) (t : Nat) (KA : AV → Prop), nilM (.map s t) .eql KA = (KA (.p (.bool false)))) ∧
  (∀ (s : Nat) (t : Nat) (KA : AV → Prop), nilM (.map s t) .neq KA = (KA (.p (.bool true)))) ∧
  (∀ (v : Value), AV.flat (.p v) = (some v)) ∧
  (∀ (cs : List AV), AV.flat (.ag cs) = ((plains cs).map fun vs => .agg vs.toArray)) ∧
  (∀ (P : Program) (e : TypeId) (a : AV) (lo : Option AV) (hi : Option AV) (Tb : Tbl) (KA : AV → Prop), slcA P (.slice e) a lo hi none Tb KA = (if tsz P e = 0 then False else lenA a fun n => bdA hi n fun h => bdA lo 0 fun l => pcA (tsz P e) a l h Tb KA)) ∧
  (∀ (P : Program) (n : Nat) (e : TypeId) (i : Nat) (off : Nat) (lo : Option AV) (hi : Option AV) (Tb : Tbl) (KA : AV → Prop), slcA P (.array n e) (.ptr i off) lo hi none Tb KA = (if tsz P e = 0 then False else celA Tb[i]? (bdA hi n fun h => bdA lo 0 fun l => (l ≤ h ∧ h ≤ n) ∧ KA (.sl i (off + l * tsz P e) (h - l))))) ∧
  (∀ (P : Program) (n : Nat) (e : TypeId) (cs : List AV) (off : Nat) (lo : Option AV) (hi : Option AV) (Tb : Tbl) (KA : AV → Prop), slcA P (.array n e) (.vp cs off) lo hi none Tb KA = (if tsz P e = 0 then False else bdA hi n fun h => bdA lo 0 fun l => (l ≤ h ∧ h ≤ n ∧ off + n * tsz P e ≤ cs.length) ∧ KA (.vs ((cs.drop (off + l * tsz P e)).take ((h - l) * tsz P e)) (h - l)))) ∧
  (∀ (P : Program) (sb : ByteArray) (lo : Option AV) (hi : Option AV) (Tb : Tbl) (KA : AV → Prop), slcA P .string (.p (.string sb)) lo hi none Tb KA = (bdA hi sb.size fun h => bdA lo 0 fun l => (l ≤ h ∧ h ≤ sb.size) ∧ KA (.p (.string (sb.extract l h))))) ∧
  (∀ (i : Nat) (off : Nat) (n : Nat) (KN : Nat → Prop), lenA (.sl i off n) KN = (KN n)) ∧
  (∀ (cs : List AV) (n : Nat) (KN : Nat → Prop), lenA (.vs cs n) KN = (KN n)) ∧
  (∀ (ad : Option Addr) (n : Nat) (k : Nat) (KN : Nat → Prop), lenA (.p (.slice ad n k)) KN = (KN n)) ∧
  (∀ (n : Nat) (KN : Nat → Prop), bdA none n KN = (KN n)) ∧
  (∀ (ik : IntKind) (z : Int) (n : Nat) (KN : Nat → Prop), bdA (some (.p (.int ik z))) n KN = (0 ≤ z ∧ KN z.toNat)) ∧
  (∀ (sz : Nat) (i : Nat) (off : Nat) (n : Nat) (j : Nat) (k : Nat) (Tb : Tbl) (KA : AV → Prop), pcA sz (.sl i off n) j k Tb KA = ((j ≤ k ∧ k ≤ n) ∧ KA (.sl i (off + j * sz) (k - j)))) ∧
  (∀ (sz : Nat) (cs : List AV) (n : Nat) (j : Nat) (k : Nat) (Tb : Tbl) (KA : AV → Prop), pcA sz (.vs cs n) j k Tb KA = ((j ≤ k ∧ k ≤ n) ∧ KA (.vs ((cs.drop (j * sz)).take ((k - j) * sz)) (k - j)))) ∧
  (∀ (sz : Nat) (j : Nat) (k : Nat) (Tb : Tbl) (KA : AV → Prop), pcA sz (.p (.slice none 0 0)) j k Tb KA = ((j = 0 ∧ k = 0) ∧ KA (.p (.slice none 0 0)))) ∧
  (∀ (P : Program) (t : Nat) (i : Nat) (off : Nat) (x : AV) (Tb : Tbl) (KE : AV → Tbl → Eff → Prop), storeA P t (.ptr i off) x Tb KE = (getO x.known fun vs => getO Tb[i]? fun o => stoA P t i off vs o Tb KE)) ∧
  (∀ (P : Program) (t : Nat) (i : Nat) (off : Nat) (vs : List AV) (e : TypeId) (cs : List AV) (Tb : Tbl) (KE : AV → Tbl → Eff → Prop), stoA P t i off vs (.cells e cs) Tb KE = ((tsz P t = vs.length ∧ 0 < vs.length ∧ off + vs.length ≤ cs.length ∧ ones vs = true) ∧ KE (.p undef) (Tb.set i (.cells e (wrA cs off vs))) [(i, false)])) ∧
  (∀ (P : Program) (t : Nat) (i : Nat) (off : Nat) (vs : List AV) (e : TypeId) (sz : Nat) (cs : List AV) (Tb : Tbl) (KE : AV → Tbl → Eff → Prop), stoA P t i off vs (.buf e sz cs) Tb KE = ((tsz P t = vs.length ∧ 0 < vs.length ∧ off + vs.length ≤ cs.length ∧ ones vs = true) ∧ KE (.p undef) (Tb.set i (.buf e sz (wrA cs off vs))) [(i, false)])) ∧
  (∀ (cs : List AV) (k : Nat) (a : AV), wrA cs k [a] = (cs.set k a)) ∧
  (∀ (ik : IntKind) (z : Int), AV.known (.p (.int ik z)) = (some [.p (.int ik z)])) ∧
  (∀ (bb : Bool), AV.known (.p (.bool bb)) = (some [.p (.bool bb)])) ∧
  (∀ (sb : ByteArray), AV.known (.p (.string sb)) = (some [.p (.string sb)])) ∧
  (∀ (ad : Option Addr), AV.known (.p (.pointer ad)) = (some [.p (.pointer ad)])) ∧
  (∀ (ad : Option Addr) (n : Nat) (k : Nat), AV.known (.p (.slice ad n k)) = (some [.p (.slice ad n k)])) ∧
  (∀ (on : Option Nat), AV.known (.p (.map on)) = (some [.p (.map on)])) ∧
  (∀ (fn : Fn) (va : Array Value) (vb : Array Value), AV.known (.p (.func fn va vb)) = (some [.p (.func fn va vb)])) ∧
  (∀ (ty : TypeId) (v : Value), AV.known (.p (.iface ty v)) = (some [.p (.iface ty v)])) ∧
  (AV.known (.p .nilFunc) = (some [.p .nilFunc])) ∧
  (AV.known (.p .nilIface) = (some [.p .nilIface])) ∧
  (∀ (va : Array Value), AV.known (.p (.agg va)) = (some (va.toList.map .p))) ∧
  (∀ (cs : List AV), AV.known (.ag cs) = (some cs)) ∧
  (∀ (va : Array Value), Value.cells (.agg va) = (va)) ∧
  (∀ (ik : IntKind) (z : Int), Value.cells (.int ik z) = (#[.int ik z])) ∧
  (∀ (bb : Bool), Value.cells (.bool bb) = (#[.bool bb])) ∧
  (∀ (ad : Option Addr), Value.cells (.pointer ad) = (#[.pointer ad])) ∧
  (∀ (ad : Option Addr) (n : Nat) (k : Nat), Value.cells (.slice ad n k) = (#[.slice ad n k])) ∧
  (∀ (sb : ByteArray), Value.cells (.string sb) = (#[.string sb])) ∧
  (∀ (va : Array Value), (va.toList.toArray) = (va)) ∧
  (∀ (i : Nat) (off : Nat), AV.known (.ptr i off) = (some [.ptr i off])) ∧
  (∀ (i : Nat) (off : Nat), AV.one (.ptr i off) = (true)) ∧
  (∀ (i : Nat) (off : Nat) (n : Nat), AV.known (.sl i off n) = (some [.sl i off n])) ∧
  (∀ (i : Nat) (off : Nat) (n : Nat), AV.one (.sl i off n) = (true)) ∧
  (∀ (cs : List AV) (off : Nat), AV.known (.vp cs off) = (some [.vp cs off])) ∧
  (∀ (cs : List AV) (off : Nat), AV.one (.vp cs off) = (true)) ∧
  (∀ (cs : List AV) (n : Nat), AV.known (.vs cs n) = (some [.vs cs n])) ∧
  (∀ (cs : List AV) (n : Nat), AV.one (.vs cs n) = (true)) ∧
  (∀ (f : Nat) (cs : List AV), AV.known (.fn f cs) = (some [.fn f cs])) ∧
  (∀ (f : Nat) (cs : List AV), AV.one (.fn f cs) = (true)) ∧
  (∀ (ty : TypeId) (a : AV), AV.known (.ic ty a) = (some [.ic ty a])) ∧
  (∀ (ty : TypeId) (a : AV), AV.one (.ic ty a) = (true)) ∧
  (∀ (i : Nat), AV.known (.mp i) = (some [.mp i])) ∧
  (∀ (i : Nat), AV.one (.mp i) = (true)) ∧
  (∀ (i : Nat), AV.known (.yl i) = (some [.yl i])) ∧
  (∀ (i : Nat), AV.one (.yl i) = (true)) ∧
  (∀ (v : Value), AV.one (.p v) = (v.oneCell')) ∧
  (ones [] = (true)) ∧
  (∀ (a : AV) (l : List AV), ones (a :: l) = ((a.one && ones l))) ∧
  (∀ (ik : IntKind) (z : Int), Value.oneCell' (.int ik z) = (true)) ∧
  (∀ (bb : Bool), Value.oneCell' (.bool bb) = (true)) ∧
  (∀ (sb : ByteArray), Value.oneCell' (.string sb) = (true)) ∧
  (∀ (ad : Option Addr), Value.oneCell' (.pointer ad) = (true)) ∧
  (∀ (ad : Option Addr) (n : Nat) (k : Nat), Value.oneCell' (.slice ad n k) = (true)) ∧
  (∀ (on : Option Nat), Value.oneCell' (.map on) = (true)) ∧
  (∀ (fn : Fn) (va : Array Value) (vb : Array Value), Value.oneCell' (.func fn va vb) = (true)) ∧
  (∀ (ty : TypeId) (v : Value), Value.oneCell' (.iface ty v) = (true)) ∧
  (Value.oneCell' (.nilFunc) = (true)) ∧
  (Value.oneCell' (.nilIface) = (true)) ∧
  (∀ (sz : Nat) (cs : List AV) (n : Nat) (Tb : Tbl) (KCN : List AV → Nat → Prop), srcA sz (.vs cs n) Tb KCN = (cs.length = n * sz ∧ KCN cs n)) ∧
  (∀ (sz : Nat) (i : Nat) (off : Nat) (n : Nat) (Tb : Tbl) (KCN : List AV → Nat → Prop), srcA sz (.sl i off n) Tb KCN = (csA Tb[i]? fun cs => off + n * sz ≤ cs.length ∧ KCN ((cs.drop off).take (n * sz)) n)) ∧
  (∀ (sz : Nat) (Tb : Tbl) (KCN : List AV → Nat → Prop), srcA sz (.p (.slice none 0 0)) Tb KCN = (KCN [] 0)) ∧
  (∀ (P : Program) (e : TypeId) (a : AV) (y : AV) (Tb : Tbl) (KE : AV → Tbl → Eff → Prop), appA P (.slice e) a y Tb KE = (if tsz P e = 0 then False else getO (tzr P e) fun z => z.cells.size = tsz P e ∧ srcA (tsz P e) y Tb fun ys m => ones ys = true ∧ appB P e a ys m Tb KE)) ∧
  (∀ (P : Program) (e : TypeId) (l : List AV) (m : Nat) (Tb : Tbl) (KE : AV → Tbl → Eff → Prop), appB P e (.p (.slice none 0 0)) l m Tb KE = (lim P e m ∧ KE (.sl Tb.length 0 m) (Tb ++ [.buf e (tsz P e) l]) [])) ∧
  (∀ (P : Program) (e : TypeId) (i : Nat) (off : Nat) (n : Nat) (l : List AV) (m : Nat) (Tb : Tbl) (KE : AV → Tbl → Eff → Prop), appB P e (.sl i off n) l m Tb KE = (getO Tb[i]? fun o => appC P e i off n l m o Tb KE)) ∧
  (∀ (P : Program) (e : TypeId) (f : Nat) (i : Nat) (off : Nat) (n : Nat) (l : List AV) (m : Nat) (sz : Nat) (cs : List AV) (Tb : Tbl) (KE : AV → Tbl → Eff → Prop), appC P e i off n l m (.buf f sz cs) Tb KE = ((f = e ∧ sz = tsz P e ∧ off = 0 ∧ cs.length = n * sz ∧ lim P e (n + m)) ∧ KE (.sl i 0 (n + m)) ((Tb.map (AObj.wo (· == i))).set i (.buf e sz ((cs ++ l).map (AV.wo (· == i))))) [(i, true)])) ∧
  (∀ (P : Program) (G : Nat → AV) (g : Nat) (args_ : List AV) (Tb : Tbl) (KE : AV → Tbl → Eff → Prop), callA P G (.p (.func (.func g) ⟨[]⟩ ⟨[]⟩)) args_ Tb KE = (callF (entered P g) P G g args_ Tb KE)) ∧
  (∀ (P : Program) (G : Nat → AV) (k : Nat) (args_ : List AV) (Tb : Tbl) (KE : AV → Tbl → Eff → Prop), callA P G (.p (.func (.yield k) ⟨[]⟩ ⟨[]⟩)) args_ Tb KE = (YldA P G k args_ Tb KE)) ∧
  (∀ (P : Program) (G : Nat → AV) (k : Nat) (args_ : List AV) (Tb : Tbl) (KE : AV → Tbl → Eff → Prop), callA P G (.yl k) args_ Tb KE = (YldI P G k args_ Tb KE)) ∧
  (∀ (P : Program) (G : Nat → AV) (g : Nat) (cs : List AV) (args_ : List AV) (Tb : Tbl) (KE : AV → Tbl → Eff → Prop), callA P G (.fn g cs) args_ Tb KE = (callF (entered P g) P G g (args_ ++ cs) Tb KE)) ∧
  (∀ (P : Program) (G : Nat → AV) (g : Nat) (args_ : List AV) (Tb : Tbl) (KE : AV → Tbl → Eff → Prop), callF true P G g args_ Tb KE = (CallA P G g args_ Tb KE)) ∧
  (∀ (P : Program) (G : Nat → AV) (g : Nat) (args_ : List AV) (Tb : Tbl) (KE : AV → Tbl → Eff → Prop), callF false P G g args_ Tb KE = (ExtA P G g args_ Tb KE)) ∧
  (∀ (P : Program) (G : Nat → AV) (N : Nat) (ro : Option Nat) (n : Nat) (m : Nat) (ds : List AV) (loc : List AV) (tmp : List (Nat × AV)) (Tb : Tbl) (E : Eff) (Nk : AKont) (X : Nat → AKont) (R : AKont), codeA P G N ro n m (.skip) ds loc tmp Tb E Nk X R = (Nk ds loc tmp Tb E)) ∧
  (∀ (i : Nat) (aops : Array Oper) (P : Program) (G : Nat → AV) (N : Nat) (ro : Option Nat) (n : Nat) (m : Nat) (ds : List AV) (loc : List AV) (tmp : List (Nat × AV)) (Tb : Tbl) (E : Eff) (Nk : AKont) (X : Nat → AKont) (R : AKont), codeA P G N ro n m (.region i aops true) ds loc tmp Tb E Nk X R = (SemA P G N ro n m (.region i aops true) ds loc [] Tb E Nk X R)) ∧
  (∀ (i : Nat) (aops : Array Oper) (P : Program) (G : Nat → AV) (N : Nat) (ro : Option Nat) (n : Nat) (m : Nat) (ds : List AV) (loc : List AV) (tmp : List (Nat × AV)) (Tb : Tbl) (E : Eff) (Nk : AKont) (X : Nat → AKont) (R : AKont), codeA P G N ro n m (.region i aops false) ds loc tmp Tb E Nk X R = (opsA P G N n aops.toList ds aops.toList loc [] Tb E Nk)) ∧
  (∀ (c1 : Code) (c2 : Code) (P : Program) (G : Nat → AV) (N : Nat) (ro : Option Nat) (n : Nat) (m : Nat) (ds : List AV) (loc : List AV) (tmp : List (Nat × AV)) (Tb : Tbl) (E : Eff) (Nk : AKont) (X : Nat → AKont) (R : AKont), codeA P G N ro n m (.seq c1 c2) ds loc tmp Tb E Nk X R = (codeA P G N ro n m c1 ds loc tmp Tb E (fun ds loc tmp T E => codeA P G N ro n m c2 ds loc tmp T E Nk X R) X R)) ∧
  (∀ (xo : Operand) (c1 : Code) (c2 : Code) (P : Program) (G : Nat → AV) (N : Nat) (ro : Option Nat) (n : Nat) (m : Nat) (ds : List AV) (loc : List AV) (tmp : List (Nat × AV)) (Tb : Tbl) (E : Eff) (Nk : AKont) (X : Nat → AKont) (R : AKont), codeA P G N ro n m (.cond xo c1 c2) ds loc tmp Tb E Nk X R = (bpA (evA G n loc tmp xo) (codeA P G N ro n m c1 ds loc tmp Tb E Nk X R) (codeA P G N ro n m c2 ds loc tmp Tb E Nk X R))) ∧
  (∀ (i : Nat) (c1 : Code) (P : Program) (G : Nat → AV) (N : Nat) (ro : Option Nat) (n : Nat) (m : Nat) (ds : List AV) (loc : List AV) (tmp : List (Nat × AV)) (Tb : Tbl) (E : Eff) (Nk : AKont) (X : Nat → AKont) (R : AKont), codeA P G N ro n m (.block i c1) ds loc tmp Tb E Nk X R = (codeA P G N ro n m c1 ds loc tmp Tb E Nk (fun j => if j = i then Nk else X j) R)) ∧
  (∀ (c1 : Code) (P : Program) (G : Nat → AV) (N : Nat) (ro : Option Nat) (n : Nat) (m : Nat) (ds : List AV) (loc : List AV) (tmp : List (Nat × AV)) (Tb : Tbl) (E : Eff) (Nk : AKont) (X : Nat → AKont) (R : AKont), codeA P G N ro n m (.loop c1) ds loc tmp Tb E Nk X R = (SemA P G N ro n m (.loop c1) ds loc [] Tb E Nk X R)) ∧
  (∀ (i : Nat) (P : Program) (G : Nat → AV) (N : Nat) (ro : Option Nat) (n : Nat) (m : Nat) (ds : List AV) (loc : List AV) (tmp : List (Nat × AV)) (Tb : Tbl) (E : Eff) (Nk : AKont) (X : Nat → AKont) (R : AKont), codeA P G N ro n m (.exit i) ds loc tmp Tb E Nk X R = (X i ds loc tmp Tb E)) ∧
  (∀ (P : Program) (G : Nat → AV) (N : Nat) (ro : Option Nat) (n : Nat) (m : Nat) (ds : List AV) (loc : List AV) (tmp : List (Nat × AV)) (Tb : Tbl) (E : Eff) (Nk : AKont) (X : Nat → AKont) (R : AKont), codeA P G N ro n m (.ret) ds loc tmp Tb E Nk X R = (R ds loc tmp Tb E)) ∧
  (∀ (xo : Operand) (ps : Array Tmp) (c1 : Code) (c2 : Code) (P : Program) (G : Nat → AV) (N : Nat) (ro : Option Nat) (n : Nat) (m : Nat) (ds : List AV) (loc : List AV) (tmp : List (Nat × AV)) (Tb : Tbl) (E : Eff) (Nk : AKont) (X : Nat → AKont) (R : AKont), codeA P G N ro n m (.rangeFunc xo ps c1 c2) ds loc tmp Tb E Nk X R = (SemA P G N ro n m (.rangeFunc xo ps c1 c2) ds loc tmp Tb E Nk X R)) ∧
  (∀ (c1 : Code) (P : Program) (G : Nat → AV) (N : Nat) (ro : Option Nat) (n : Nat) (m : Nat) (ds : List AV) (loc : List AV) (tmp : List (Nat × AV)) (Tb : Tbl) (E : Eff) (Nk : AKont) (X : Nat → AKont) (R : AKont), codeA P G N ro n m (.scope c1) ds loc tmp Tb E Nk X R = (codeA P G N ro n m c1 ds loc tmp Tb E Nk X R)) ∧
  (∀ (i : Nat) (P : Program) (G : Nat → AV) (N : Nat) (ro : Option Nat) (n : Nat) (m : Nat) (ds : List AV) (loc : List AV) (tmp : List (Nat × AV)) (Tb : Tbl) (E : Eff) (Nk : AKont) (X : Nat → AKont) (R : AKont), codeA P G N ro n m (.label i) ds loc tmp Tb E Nk X R = (Nk ds loc tmp Tb E)) ∧
  (∀ (P : Program) (rv : List ResultVar) (KE : AV → Tbl → Eff → Prop) (loc : List AV) (tmp : List (Nat × AV)) (Tb : Tbl) (E : Eff), retA P rv KE [] loc tmp Tb E = (resA P rv loc Tb fun v => KE v Tb E)) ∧
  (∀ (P : Program) (rv : List ResultVar) (KE : AV → Tbl → Eff → Prop) (i : Nat) (loc : List AV) (tmp : List (Nat × AV)) (Tb : Tbl) (E : Eff), retA P rv KE [.ptr i 0] loc tmp Tb E = (getO Tb[i]? fun o => defO o (resA P rv loc (Tb.set i (.raw (.deferred none))) fun v => KE v (Tb.set i (.raw (.deferred none))) ((i, false) :: E)))) ∧
  (∀ (A : Prop), defO (.raw (.deferred (some []))) A = (A)) ∧
  (∀ (P : Program) (loc : List AV) (Tb : Tbl) (KA : AV → Prop), resA P [] loc Tb KA = (KA (.tu []))) ∧
  (∀ (P : Program) (t : Nat) (loc : List AV) (Tb : Tbl) (KA : AV → Prop), resA P [.tmp t] loc Tb KA = (KA (loc.getD t .any))) ∧
  (∀ (P : Program) (t : Nat) (s : Nat) (loc : List AV) (Tb : Tbl) (KA : AV → Prop), resA P [.tmp t, .tmp s] loc Tb KA = (KA (.tu [loc.getD t .any, loc.getD s .any]))) ∧
  (∀ (P : Program) (t : Nat) (s : Nat) (k : Nat) (loc : List AV) (Tb : Tbl) (KA : AV → Prop), resA P [.tmp t, .tmp s, .tmp k] loc Tb KA = (KA (.tu [loc.getD t .any, loc.getD s .any, loc.getD k .any]))) ∧
  (∀ (P : Program) (t : Nat) (e : TypeId) (loc : List AV) (Tb : Tbl) (KA : AV → Prop), resA P [.cell t e] loc Tb KA = (loadA P e (loc.getD t .any) Tb KA)) ∧
  (∀ (P : Program) (t : Nat) (e : TypeId) (s : Nat) (f : Nat) (loc : List AV) (Tb : Tbl) (KA : AV → Prop), resA P [.cell t e, .cell s f] loc Tb KA = (loadA P e (loc.getD t .any) Tb fun v => loadA P f (loc.getD s .any) Tb fun u => KA (.tu [v, u]))) ∧
  (∀ (P : Program) (t : Nat) (e : TypeId) (s : Nat) (f : Nat) (k : Nat) (g : Nat) (loc : List AV) (Tb : Tbl) (KA : AV → Prop), resA P [.cell t e, .cell s f, .cell k g] loc Tb KA = (loadA P e (loc.getD t .any) Tb fun v => loadA P f (loc.getD s .any) Tb fun u => loadA P g (loc.getD k .any) Tb fun x => KA (.tu [v, u, x]))) ∧
  (∀ (a : AV) (l : List AV) (x : AV), List.getD (a :: l) 0 x = (a)) ∧
  (∀ (a : AV) (l : List AV) (k : Nat) (x : AV), List.getD (a :: l) (k + 1) x = (List.getD l k x)) ∧
  (∀ (k : Nat) (x : AV), List.getD [] k x = (x)) ∧
  (∀ (a : AV) (l : List AV) (b : AV), List.set (a :: l) 0 b = (b :: l)) ∧
  (∀ (a : AV) (l : List AV) (b : AV) (k : Nat), List.set (a :: l) (k + 1) b = (a :: List.set l k b)) ∧
  (∀ (a : AV) (l : List AV), (a :: l)[0]? = (some a)) ∧
  (∀ (a : AV) (l : List AV) (k : Nat), (a :: l)[k + 1]? = (l[k]?)) ∧
  (∀ (a : AV) (l : List AV), (a :: l).length = (l.length + 1)) ∧
  (([] : List AV).length = (0)) ∧
  (∀ (l : List AV), [] ++ l = (l)) ∧
  (∀ (l : List AV), l ++ [] = (l)) ∧
  (∀ (a : AV) (l : List AV) (l2 : List AV), (a :: l) ++ l2 = (a :: (l ++ l2))) ∧
  (∀ (ob : AObj) (tb : Tbl) (oc : AObj), List.set (ob :: tb) 0 oc = (oc :: tb)) ∧
  (∀ (ob : AObj) (tb : Tbl) (oc : AObj) (k : Nat), List.set (ob :: tb) (k + 1) oc = (ob :: List.set tb k oc)) ∧
  (∀ (ob : AObj) (tb : Tbl), (ob :: tb)[0]? = (some ob)) ∧
  (∀ (ob : AObj) (tb : Tbl) (k : Nat), (ob :: tb)[k + 1]? = (tb[k]?)) ∧
  (∀ (ob : AObj) (tb : Tbl), (ob :: tb).length = (tb.length + 1)) ∧
  (([] : List AObj).length = (0)) ∧
  (∀ (tb : Tbl), [] ++ tb = (tb)) ∧
  (∀ (tb : Tbl), tb ++ [] = (tb)) ∧
  (∀ (ob : AObj) (tb : Tbl) (tb2 : Tbl), (ob :: tb) ++ tb2 = (ob :: (tb ++ tb2))) ∧
  (∀ (a : AV), List.replicate 0 a = ([])) ∧
  (∀ (a : AV) (k : Nat), List.replicate (k + 1) a = (a :: List.replicate k a)) ∧
  (∀ (tb : Tbl) (tb2 : Tbl) (tb3 : Tbl), (tb ++ tb2) ++ tb3 = (tb ++ (tb2 ++ tb3))) ∧
  (∀ (tb : Tbl) (tb2 : Tbl), (tb ++ tb2).length = (tb.length + tb2.length)) ∧
  (∀ (tb : Tbl) (k : Nat) (ob : AObj), (tb.set k ob).length = (tb.length)) ∧
  (∀ (tb : Tbl) (tb2 : Tbl) (k : Nat), (tb ++ tb2)[tb.length + k]? = (tb2[k]?)) ∧
  (∀ (tb : Tbl) (tb2 : Tbl), (tb ++ tb2)[tb.length]? = (tb2[0]?)) ∧
  (∀ (tb : Tbl) (tb2 : Tbl) (k : Nat) (ob : AObj), (tb ++ tb2).set (tb.length + k) ob = (tb ++ tb2.set k ob)) ∧
  (∀ (tb : Tbl) (tb2 : Tbl) (ob : AObj), (tb ++ tb2).set tb.length ob = (tb ++ tb2.set 0 ob)) ∧
  (∀ (n : Nat) (k : Nat) (j : Nat), n + k + j = (n + (k + j))) ∧
  (∀ (qo : AObj → AObj) (tb : Tbl) (tb2 : Tbl), (tb ++ tb2).map qo = (tb.map qo ++ tb2.map qo)) ∧
  (∀ (qo : AObj → AObj) (ob : AObj) (tb : Tbl), List.map qo (ob :: tb) = (qo ob :: List.map qo tb)) ∧
  (∀ (qo : AObj → AObj), List.map qo [] = ([])) ∧
  (∀ (qa : AV → AV) (a : AV) (l : List AV), List.map qa (a :: l) = (qa a :: List.map qa l)) ∧
  (∀ (qa : AV → AV), List.map qa [] = ([])) ∧
  (∀ (qp : Nat × AV → Nat × AV), List.map qp [] = ([])) ∧
  (∀ (qp : Nat × AV → Nat × AV) (pa : Nat×AV) (r : List (Nat × AV)), List.map qp (pa :: r) = (qp pa :: List.map qp r)) ∧
  (∀ (fo : Operand → AV), List.map fo [] = ([])) ∧
  (∀ (fo : Operand → AV) (xo : Operand) (lo_ : List Operand), List.map fo (xo :: lo_) = (fo xo :: List.map fo lo_)) ∧
  (∀ (fo : Operand → AV) (xo : Operand), Option.map fo (some xo) = (some (fo xo))) ∧
  (∀ (fo : Operand → AV), Option.map fo none = (none)) ∧
  (∀ (fp : Nat×Operand→Nat×AV), List.map fp [] = ([])) ∧
  (∀ (fp : Nat×Operand→Nat×AV) (po : Nat×Operand) (pr_ : List (Nat × Operand)), List.map fp (po :: pr_) = (fp po :: List.map fp pr_)) ∧
  (∀ (fb : AObj→AObj) (ob : AObj), Option.map fb (some ob) = (some (fb ob))) ∧
  (∀ (fv : Value→AV), List.map fv [] = ([])) ∧
  (∀ (fv : Value→AV) (v : Value) (lv : List Value), List.map fv (v :: lv) = (fv v :: List.map fv lv)) ∧
  (∀ (l : List Value), (List.toArray l).toList = (l)) ∧
  (∀ (lo_ : List Operand), (List.toArray lo_).toList = (lo_)) ∧
  (∀ (lo_ : List Oper), (List.toArray lo_).toList = (lo_)) ∧
  (∀ (lo_ : List ResultVar), (List.toArray lo_).toList = (lo_)) ∧
  (∀ (tb : Tbl), tb.take tb.length = (tb)) ∧
  (∀ (tb : Tbl) (tb2 : Tbl), (tb ++ tb2).take tb.length = (tb)) ∧
  (∀ (tb : Tbl) (tb2 : Tbl) (k : Nat), (tb ++ tb2).take (tb.length + k) = (tb ++ tb2.take k)) ∧
  (∀ (tb : Tbl), List.take 0 tb = ([])) ∧
  (∀ (ob : AObj) (tb : Tbl) (k : Nat), List.take (k + 1) (ob :: tb) = (ob :: List.take k tb)) ∧
  (∀ (o_ : Oper) (lop_ : List Oper), (o_ :: lop_)[0]? = (some o_)) ∧
  (∀ (o_ : Oper) (lop_ : List Oper) (k : Nat), (o_ :: lop_)[k + 1]? = (lop_[k]?)) ∧
  (∀ (P : Program) (e : TypeId) (n : Nat), lim P e n = ((n * tby P e ≤ 140737488355328 ∧ n ≤ 140737488355328))) ∧
  (∀ (P : Program) (k : Nat) (t : Nat) (pr : List (Nat × AV)) (KE : AV → Tbl → Eff → Prop) (Tb : Tbl), blsA P (.slice t) k pr Tb KE = (if tsz P t = 0 then False else getO (tzr P t) fun z => (z.cells.size = tsz P t ∧ k * tsz P t ≤ 16777216) ∧ getO (fillA (tsz P t) (List.replicate k (z.cells.toList.map AV.p)).flatten pr) fun cs => KE (.sl Tb.length 0 k) (Tb ++ [.buf t (tsz P t) cs]) [])) ∧
  (∀ (sz : Nat) (cs : List AV), fillA sz cs [] = (some cs)) ∧
  (∀ (sz : Nat) (cs : List AV) (i : Nat) (a : AV) (r : List (Nat × AV)), fillA sz cs ((i, a) :: r) = (fillB sz cs i a.known r)) ∧
  (∀ (sz : Nat) (cs : List AV) (i : Nat) (vs : List AV) (r : List (Nat × AV)), fillB sz cs i (some vs) r = (if vs.length = sz ∧ i * sz + vs.length ≤ cs.length then fillA sz (wrA cs (i * sz) vs) r else none)) ∧
  (∀ (P : Program) (t : Nat) (pr : List (Nat × AV)) (KA : AV → Prop), bldA P t pr KA = (getO (tzr P t) fun z => bldC P t (tst P t) (z.cells.toList.map AV.p) pr KA)) ∧
  (∀ (P : Program) (t : Nat) (cs : List AV) (pr : List (Nat × AV)) (KA : AV → Prop), bldC P t true cs pr KA = (getO (fillS P t cs pr) fun cs => KA (.ag cs))) ∧
  (∀ (P : Program) (t : Nat) (cs : List AV) (pr : List (Nat × AV)) (KA : AV → Prop), bldC P t false cs pr KA = (bldB P (tk P t) cs pr KA)) ∧
  (∀ (P : Program) (n : Nat) (e : TypeId) (cs : List AV) (pr : List (Nat × AV)) (KA : AV → Prop), bldB P (.array n e) cs pr KA = (if tsz P e = 0 then False else getO (fillA (tsz P e) cs pr) fun cs => KA (.ag cs))) ∧
  (∀ (P : Program) (t : Nat) (cs : List AV), fillS P t cs [] = (some cs)) ∧
  (∀ (P : Program) (t : Nat) (cs : List AV) (i : Nat) (a : AV) (r : List (Nat × AV)), fillS P t cs ((i, a) :: r) = (fillT P t cs (tff P t i) a.known r)) ∧
  (∀ (P : Program) (t : Nat) (cs : List AV) (off : Nat) (e : TypeId) (vs : List AV) (r : List (Nat × AV)), fillT P t cs (some (off, e)) (some vs) r = (if vs.length = tsz P e ∧ off + vs.length ≤ cs.length then fillS P t (wrA cs off vs) r else none)) ∧
  (∀ (P : Program) (e : TypeId) (ik : IntKind) (z : Int) (ik2 : IntKind) (z2 : Int) (Tb : Tbl) (KE : AV → Tbl → Eff → Prop), mksA P (.slice e) (.p (.int ik z)) (.p (.int ik2 z2)) Tb KE = (if tsz P e = 0 then False else getO (tzr P e) fun c => (0 ≤ z ∧ z ≤ z2 ∧ c.cells.size = tsz P e ∧ lim P e z2.toNat) ∧ KE (.sl Tb.length 0 z.toNat) (Tb ++ [.buf e (tsz P e) (List.replicate z.toNat (c.cells.toList.map AV.p)).flatten]) [])) ∧
  (∀ (P : Program) (t : Nat) (s : Nat) (a : AV) (b : AV) (Tb : Tbl) (KE : AV → Tbl → Eff → Prop), cpyA P [t, s] a b Tb KE = (cpyE P (tk P t) a b Tb KE)) ∧
  (∀ (P : Program) (e : TypeId) (i : Nat) (off : Nat) (n : Nat) (y : AV) (Tb : Tbl) (KE : AV → Tbl → Eff → Prop), cpyE P (.slice e) (.sl i off n) y Tb KE = (tsz P e = 1 ∧ srcA 1 y Tb fun ys m => (ones ys = true ∧ ys.length = m ∧ 0 < m ∧ 0 < n) ∧ getO Tb[i]? fun o => cpyB P i off n ys m o Tb KE)) ∧
  (∀ (P : Program) (i : Nat) (off : Nat) (n : Nat) (l : List AV) (m : Nat) (e : TypeId) (cs : List AV) (Tb : Tbl) (KE : AV → Tbl → Eff → Prop), cpyB P i off n l m (.cells e cs) Tb KE = (off + (l.take (min m n)).length ≤ cs.length ∧ KE (.p (.int .i64 (min m n : Nat))) (Tb.set i (.cells e (wrA cs off (l.take (min m n))))) [(i, false)])) ∧
  (∀ (P : Program) (i : Nat) (off : Nat) (n : Nat) (l : List AV) (m : Nat) (e : TypeId) (sz : Nat) (cs : List AV) (Tb : Tbl) (KE : AV → Tbl → Eff → Prop), cpyB P i off n l m (.buf e sz cs) Tb KE = (off + (l.take (min m n)).length ≤ cs.length ∧ KE (.p (.int .i64 (min m n : Nat))) (Tb.set i (.buf e sz (wrA cs off (l.take (min m n))))) [(i, false)])) ∧
  (∀ (s : Nat) (t : Nat) (xo : Operand) (P : Program) (G : Nat → AV) (ρ : Operand → AV) (ty : TypeId) (Tb : Tbl) (KE : AV → Tbl → Eff → Prop), opA P G ρ (.convert s t xo) ty Tb KE = (cvoA P (tk P s) (tk P t) s t (ρ xo) Tb KE)) ∧
  (∀ (P : Program) (el : TypeId) (s : Nat) (t : Nat) (sb : ByteArray) (Tb : Tbl) (KE : AV → Tbl → Eff → Prop), cvoA P .string (.slice el) s t (.p (.string sb)) Tb KE = (tk P el = .int .u8 ∧ KE (.vs (sb.data.toList.map fun b => .p (.int .u8 (b.toNat : Int))) sb.size) Tb [])) ∧
  (∀ (P : Program) (ik : IntKind) (dsc : TypeDesc) (s : Nat) (t : Nat) (a : AV) (Tb : Tbl) (KE : AV → Tbl → Eff → Prop), cvoA P (.int ik) dsc s t a Tb KE = (cnvA P (.int ik) dsc s t a Tb fun a => KE a Tb [])) ∧
  (∀ (P : Program) (dsc : TypeDesc) (s : Nat) (t : Nat) (a : AV) (Tb : Tbl) (KE : AV → Tbl → Eff → Prop), cvoA P .bool dsc s t a Tb KE = (cnvA P .bool dsc s t a Tb fun a => KE a Tb [])) ∧
  (∀ (P : Program) (el : TypeId) (e : TypeId) (dsc : TypeDesc) (s : Nat) (t : Nat) (a : AV) (Tb : Tbl) (KE : AV → Tbl → Eff → Prop), cvoA P (.map el e) dsc s t a Tb KE = (cnvA P (.map el e) dsc s t a Tb fun a => KE a Tb [])) ∧
  (∀ (P : Program) (el : TypeId) (dsc : TypeDesc) (s : Nat) (t : Nat) (a : AV) (Tb : Tbl) (KE : AV → Tbl → Eff → Prop), cvoA P (.pointer el) dsc s t a Tb KE = (cnvA P (.pointer el) dsc s t a Tb fun a => KE a Tb [])) ∧
  (∀ (P : Program) (el : TypeId) (dsc : TypeDesc) (s : Nat) (t : Nat) (a : AV) (Tb : Tbl) (KE : AV → Tbl → Eff → Prop), cvoA P (.slice el) dsc s t a Tb KE = (cnvA P (.slice el) dsc s t a Tb fun a => KE a Tb [])) ∧
  (∀ (P : Program) (s : Nat) (t : Nat) (a : AV) (Tb : Tbl) (KE : AV → Tbl → Eff → Prop), cvoA P .string .string s t a Tb KE = (cnvA P .string .string s t a Tb fun a => KE a Tb [])) ∧
  (∀ (t : Nat) (P : Program) (G : Nat → AV) (ρ : Operand → AV) (ty : TypeId) (Tb : Tbl) (KE : AV → Tbl → Eff → Prop), opA P G ρ (.makeMap t none) ty Tb KE = (mkmA P (tk P t) none Tb KE)) ∧
  (∀ (t : Nat) (xo : Operand) (P : Program) (G : Nat → AV) (ρ : Operand → AV) (ty : TypeId) (Tb : Tbl) (KE : AV → Tbl → Eff → Prop), opA P G ρ (.makeMap t (some xo)) ty Tb KE = (mkmA P (tk P t) (some (ρ xo)) Tb KE)) ∧
  (∀ (t : Nat) (xo : Operand) (yo : Operand) (zo : Operand) (P : Program) (G : Nat → AV) (ρ : Operand → AV) (ty : TypeId) (Tb : Tbl) (KE : AV → Tbl → Eff → Prop), opA P G ρ (.mapUpdate t xo yo zo) ty Tb KE = (mupA P (tk P t) (ρ xo) (ρ yo) (ρ zo) Tb KE)) ∧
  (∀ (t : Nat) (xo : Operand) (yo : Operand) (zo : Operand) (P : Program) (G : Nat → AV) (ρ : Operand → AV) (ty : TypeId) (Tb : Tbl) (KE : AV → Tbl → Eff → Prop), opA P G ρ (.insert t xo yo zo) ty Tb KE = (mupA P (tk P t) (ρ xo) (ρ yo) (ρ zo) Tb KE)) ∧
  (∀ (xo : Operand) (yo : Operand) (t : Nat) (tsl : List TypeId) (P : Program) (G : Nat → AV) (ρ : Operand → AV) (ty : TypeId) (Tb : Tbl) (KE : AV → Tbl → Eff → Prop), opA P G ρ (.call ⟨.builtin .delete, ⟨[xo, yo]⟩, ⟨t :: tsl⟩⟩) ty Tb KE = (mdlA P (tk P t) (ρ xo) (ρ yo) Tb KE)) ∧
  (∀ (P : Program) (dsc : TypeDesc) (Tb : Tbl) (KE : AV → Tbl → Eff → Prop), mkmA P dsc none Tb KE = (KE (.mp Tb.length) (Tb ++ [.map []]) [])) ∧
  (∀ (P : Program) (e : TypeId) (el : TypeId) (ik : IntKind) (z : Int) (Tb : Tbl) (KE : AV → Tbl → Eff → Prop), mkmA P (.map e el) (some (.p (.int ik z))) Tb KE = (KE (.mp Tb.length) (Tb ++ [.map []]) [])) ∧
  (∀ (P : Program) (e : TypeId) (el : TypeId) (a : AV) (x : AV) (y : AV) (Tb : Tbl) (KE : AV → Tbl → Eff → Prop), mupA P (.map e el) a x y Tb KE = (getO x.flat fun k => mupB P e a k y Tb KE)) ∧
  (∀ (P : Program) (e : TypeId) (i : Nat) (kv : Value) (y : AV) (Tb : Tbl) (KE : AV → Tbl → Eff → Prop), mupB P e (.mp i) kv y Tb KE = (getO Tb[i]? fun o => mupC P e i kv y o Tb KE)) ∧
  (∀ (P : Program) (e : TypeId) (i : Nat) (kv : Value) (y : AV) (mm : List (Value × AV)) (Tb : Tbl) (KE : AV → Tbl → Eff → Prop), mupC P e i kv y (.map mm) Tb KE = (mapKO P e mm kv ∧ KE (.p undef) (Tb.set i (.map (mset mm kv y))) [(i, false)])) ∧
  (∀ (P : Program) (e : TypeId) (el : TypeId) (a : AV) (x : AV) (Tb : Tbl) (KE : AV → Tbl → Eff → Prop), mdlA P (.map e el) a x Tb KE = (getO x.flat fun k => mdlB P e a k Tb KE)) ∧
  (∀ (P : Program) (e : TypeId) (i : Nat) (kv : Value) (Tb : Tbl) (KE : AV → Tbl → Eff → Prop), mdlB P e (.mp i) kv Tb KE = (getO Tb[i]? fun o => mdlC P e i kv o Tb KE)) ∧
  (∀ (P : Program) (e : TypeId) (i : Nat) (kv : Value) (mm : List (Value × AV)) (Tb : Tbl) (KE : AV → Tbl → Eff → Prop), mdlC P e i kv (.map mm) Tb KE = (mapKO P e mm kv ∧ KE (.p (.tuple #[])) (Tb.set i (.map (mdel mm kv))) [(i, false)])) ∧
  (∀ (P : Program) (e : TypeId) (el : TypeId) (a : AV) (x : AV) (bb : Bool) (Tb : Tbl) (KA : AV → Prop), lokA P (.map e el) a x bb Tb KA = (getO x.flat fun k => getO (tzr P el) fun z => lokB P e a k bb z Tb KA)) ∧
  (∀ (P : Program) (e : TypeId) (i : Nat) (kv : Value) (bb : Bool) (v : Value) (Tb : Tbl) (KA : AV → Prop), lokB P e (.mp i) kv bb v Tb KA = (lokC P e Tb[i]? kv bb v KA)) ∧
  (∀ (P : Program) (e : TypeId) (kv : Value) (bb : Bool) (v : Value) (Tb : Tbl) (KA : AV → Prop), lokB P e (.p (.map none)) kv bb v Tb KA = (mapKO P e [] kv ∧ lkK bb none v KA)) ∧
  (∀ (P : Program) (e : TypeId) (mm : List (Value × AV)) (kv : Value) (bb : Bool) (v : Value) (KA : AV → Prop), lokC P e (some (.map mm)) kv bb v KA = (mapKO P e mm kv ∧ lkK bb (mfind mm kv) v KA)) ∧
  (∀ (a : AV) (v : Value) (KA : AV → Prop), lkK true (some a) v KA = (KA (.tu [a, .p (.bool true)]))) ∧
  (∀ (a : AV) (v : Value) (KA : AV → Prop), lkK false (some a) v KA = (KA a)) ∧
  (∀ (v : Value) (KA : AV → Prop), lkK true none v KA = (KA (.tu [.p v, .p (.bool false)]))) ∧
  (∀ (v : Value) (KA : AV → Prop), lkK false none v KA = (KA (.p v))) ∧
  (∀ (P : Program) (el : TypeId) (s : Nat) (t : Nat) (a : AV) (Tb : Tbl) (KA : AV → Prop), cnvA P (.slice el) .string s t a Tb KA = (tk P el = .int .u8 ∧ srcA 1 a Tb fun cs _ => getO (bytesA cs) fun bs => KA (.p (.string ⟨bs.toArray⟩)))) ∧
  (∀ (P : Program) (ik : IntKind) (dsc : TypeDesc) (s : Nat) (t : Nat) (a : AV) (Tb : Tbl) (KA : AV → Prop), cnvA P (.int ik) dsc s t a Tb KA = (isP a fun v => convV (.int ik) dsc s t v (pureK P KA) fun v => KA (.p v))) ∧
  (∀ (P : Program) (dsc : TypeDesc) (s : Nat) (t : Nat) (a : AV) (Tb : Tbl) (KA : AV → Prop), cnvA P .string dsc s t a Tb KA = (isP a fun v => convV .string dsc s t v (pureK P KA) fun v => KA (.p v))) ∧
  (∀ (P : Program) (dsc : TypeDesc) (s : Nat) (t : Nat) (a : AV) (Tb : Tbl) (KA : AV → Prop), cnvA P .bool dsc s t a Tb KA = (isP a fun v => convV .bool dsc s t v (pureK P KA) fun v => KA (.p v))) ∧
  (∀ (P : Program) (el : TypeId) (e : TypeId) (dsc : TypeDesc) (s : Nat) (t : Nat) (a : AV) (Tb : Tbl) (KA : AV → Prop), cnvA P (.map el e) dsc s t a Tb KA = (isP a fun v => convV (.map el e) dsc s t v (pureK P KA) fun v => KA (.p v))) ∧
  (∀ (P : Program) (el : TypeId) (dsc : TypeDesc) (s : Nat) (t : Nat) (a : AV) (Tb : Tbl) (KA : AV → Prop), cnvA P (.pointer el) dsc s t a Tb KA = (isP a fun v => convV (.pointer el) dsc s t v (pureK P KA) fun v => KA (.p v))) ∧
  (∀ (P : Program) (el : TypeId) (e : TypeId) (s : Nat) (t : Nat) (a : AV) (Tb : Tbl) (KA : AV → Prop), cnvA P (.slice el) (.slice e) s t a Tb KA = (isP a fun v => convV (.slice el) (.slice e) s t v (pureK P KA) fun v => KA (.p v))) ∧
  (∀ (P : Program) (op : BinOp) (t : Nat) (v : Value) (b : AV) (xo : Operand) (yo : Operand) (Tb : Tbl) (KA : AV → Prop), bin2A P op t (.p v) b xo yo Tb KA = (binA P op t (.p v) b xo yo KA)) ∧
  (∀ (P : Program) (op : BinOp) (t : Nat) (cs : List AV) (off : Nat) (b : AV) (xo : Operand) (yo : Operand) (Tb : Tbl) (KA : AV → Prop), bin2A P op t (.vp cs off) b xo yo Tb KA = (binA P op t (.vp cs off) b xo yo KA)) ∧
  (∀ (P : Program) (op : BinOp) (t : Nat) (i : Nat) (b : AV) (xo : Operand) (yo : Operand) (Tb : Tbl) (KA : AV → Prop), bin2A P op t (.mp i) b xo yo Tb KA = (binA P op t (.mp i) b xo yo KA)) ∧
  (∀ (P : Program) (op : BinOp) (t : Nat) (cs : List AV) (b : AV) (xo : Operand) (yo : Operand) (Tb : Tbl) (KA : AV → Prop), bin2A P op t (.ag cs) b xo yo Tb KA = (binA P op t (.ag cs) b xo yo KA)) ∧
  (∀ (P : Program) (op : BinOp) (t : Nat) (cs : List AV) (n : Nat) (b : AV) (xo : Operand) (yo : Operand) (Tb : Tbl) (KA : AV → Prop), bin2A P op t (.vs cs n) b xo yo Tb KA = (binA P op t (.vs cs n) b xo yo KA)) ∧
  (∀ (P : Program) (op : BinOp) (t : Nat) (off : Nat) (i : Nat) (n : Nat) (b : AV) (xo : Operand) (yo : Operand) (Tb : Tbl) (KA : AV → Prop), bin2A P op t (.sl i off n) b xo yo Tb KA = (binA P op t (.sl i off n) b xo yo KA)) ∧
  (∀ (P : Program) (op : BinOp) (t : Nat) (b : AV) (xo : Operand) (yo : Operand) (Tb : Tbl) (KA : AV → Prop), bin2A P op t .any b xo yo Tb KA = (binA P op t .any b xo yo KA)) ∧
  (∀ (P : Program) (op : BinOp) (t : Nat) (v : Value) (i : Nat) (off : Nat) (xo : Operand) (yo : Operand) (Tb : Tbl) (KA : AV → Prop), bin2A P op t (.ptr i off) (.p v) xo yo Tb KA = (binA P op t (.ptr i off) (.p v) xo yo KA)) ∧
  (∀ (P : Program) (op : BinOp) (t : Nat) (i : Nat) (off : Nat) (j : Nat) (off2 : Nat) (xo : Operand) (yo : Operand) (Tb : Tbl) (KA : AV → Prop), bin2A P op t (.ptr i off) (.ptr j off2) xo yo Tb KA = (ccO Tb[i]? (ccO Tb[j]? (peqA P (tk P t) op (decide (i = j ∧ off = off2)) KA)))) ∧
  (∀ (e : TypeId) (cs : List AV) (A : Prop), ccO (some (.cells e cs)) A = (A)) ∧
  (∀ (e : TypeId) (sz : Nat) (cs : List AV) (A : Prop), ccO (some (.buf e sz cs)) A = (A)) ∧
  (∀ (P : Program) (e : TypeId) (bb : Bool) (KA : AV → Prop), peqA P (.pointer e) .eql bb KA = (if tsz P e = 0 then False else KA (.p (.bool bb)))) ∧
  (∀ (P : Program) (e : TypeId) (bb : Bool) (KA : AV → Prop), peqA P (.pointer e) .neq bb KA = (if tsz P e = 0 then False else KA (.p (.bool (!bb))))) ∧
  (∀ (gg : Nat → AV) (r : List (Nat × AV)) (i : Nat), mkA gg r i 0 = ([])) ∧
  (∀ (gg : Nat → AV) (r : List (Nat × AV)) (i : Nat) (n : Nat), mkA gg r i (n + 1) = (look i (gg i) r :: mkA gg r (i + 1) n)) ∧
  (∀ (i : Nat) (a : AV), look i a [] = (a)) ∧
  (∀ (i : Nat) (a : AV) (j : Nat) (b : AV) (r : List (Nat × AV)), look i a ((j, b) :: r) = (if i = j then b else look i a r)) ∧
  (∀ (n : Nat) (loc : List AV), Lc n [] loc = (loc.length = n)) ∧
  (∀ (n : Nat) (i : Nat) (a : AV) (r : List (Nat × AV)) (loc : List AV), Lc n ((i, a) :: r) loc = (loc[i]? = some a ∧ Lc n r loc)) ∧
  (∀ (a b : AV), (some a = some b) = (a = b)) ∧
  (∀ (a : AV), (a = a) = True) ∧
  (∀ (t : Tbl), (t = t) = True) ∧
  (∀ (e : Eff), (e = e) = True) ∧
  (∀ (e : Eff), (∀ x ∈ ([] : Eff), x ∈ e) = True) ∧
  (∀ (e : Eff), (∀ x ∈ e, x ∈ e) = True) ∧
  (∀ (d : List AV), (d = d) = True) ∧
  (∀ (α : Type) (x y : α), (if True then x else y) = x) ∧
  (∀ (α : Type) (x y : α), (if False then x else y) = y) ∧
  (∀ (x y : Prop), (if True then x else y) = x) ∧
  (∀ (x y : Prop), (if False then x else y) = y) ∧
  ((AV.p undef) = .p (.tuple #[])) ∧
  (∀ (α : Type) (x : α) (K : α → Prop), getO (some x) K = K x) ∧
  (∀ (l : List Nat) (x : Nat), (x == x) = true) ∧
  (∀ (α β : Type) (f : α → β) (x : α), Option.map f (some x) = some (f x)) ∧
  (∀ (α β : Type) (f : α → β), Option.map f none = none) ∧
  (∀ (n k : Nat), (n + (k + 1) == n) = false) ∧
  (∀ (n k : Nat), (n == n + (k + 1)) = false) ∧
  (∀ (n k j : Nat), (n + k == n + j) = (k == j)) ∧
  (∀ (n k j : Nat), (n + k = n + j) = (k = j)) ∧
  (∀ (n k : Nat), (n + (k + 1) = n) = False) ∧
  (∀ (n k : Nat), (n = n + (k + 1)) = False) ∧
  (∀ (k : Nat), ((k : Int)).toNat = k) ∧
  ((Nat.cast 0 : Int) = 0) ∧
  ((Nat.cast 1 : Int) = 1) ∧
  (∀ (k : Nat), k * 1 = k) ∧
  (∀ (k : Nat), 0 + k = k) ∧
  (∀ (k : Nat), k + 0 = k) ∧
  (∀ (k : Nat), 0 * k = 0) ∧
  (∀ (k : Nat), k - 0 = k) ∧
  (∀ (p : Prop), (True ∧ p) = p) ∧
  (∀ (p : Prop), (p ∧ True) = p) ∧
  (∀ (p : Prop), (p ∨ True) = True) ∧
  (∀ (p : Prop), (True ∨ p) = True) ∧
  ((true = true) = True) ∧
  ((false = true) = False) ∧
  (∀ (k : IntKind), (k = k) = True) ∧
  (∀ (k : Nat), (k = k) = True) ∧
  ((([] : List AV) = []) = True) ∧
  ((([] : List (Nat × Bool)) = []) = True) ∧
  ((([] : Eff) = []) = True) ∧
  decide True = true ∧
  decide False = false ∧
  (!true) = false ∧
  (!false) = true ∧
  (∀ b : Bool, (true && b) = b) ∧
  (∀ b : Bool, (false && b) = false) ∧
  (∀ b : Bool, (b && true) = b) ∧
  (∀ (a : AV) (l : List AV), (a :: l ≠ []) = True) ∧
  (∀ (l : List AV), List.drop 0 l = l) := by
  refine ⟨?_, ?_, ?_, ?_, ?_, ?_, ?_, ?_, ?_, ?_, ?_, ?_, ?_, ?_, ?_, ?_, ?_, ?_, ?_, ?_, ?_, ?_, ?_, ?_, ?_, ?_, ?_, ?_, ?_, ?_, ?_, ?_, ?_, ?_, ?_, ?_, ?_, ?_, ?_, ?_, ?_, ?_, ?_, ?_, ?_, ?_, ?_, ?_, ?_, ?_, ?_, ?_, ?_, ?_, ?_, ?_, ?_, ?_, ?_, ?_, ?_, ?_, ?_, ?_, ?_, ?_, ?_, ?_, ?_, ?_, ?_, ?_, ?_, ?_, ?_, ?_, ?_, ?_, ?_, ?_, ?_, ?_, ?_, ?_, ?_, ?_, ?_, ?_, ?_, ?_, ?_, ?_, ?_, ?_, ?_, ?_, ?_, ?_, ?_, ?_, ?_, ?_, ?_, ?_, ?_, ?_, ?_, ?_, ?_, ?_, ?_, ?_, ?_, ?_, ?_, ?_, ?_, ?_, ?_, ?_, ?_, ?_, ?_, ?_, ?_, ?_, ?_, ?_, ?_, ?_, ?_, ?_, ?_, ?_, ?_, ?_, ?_, ?_, ?_, ?_, ?_, ?_, ?_, ?_, ?_, ?_, ?_, ?_, ?_, ?_, ?_, ?_, ?_, ?_, ?_, ?_, ?_, ?_, ?_, ?_, ?_, ?_, ?_, ?_, ?_, ?_, ?_, ?_, ?_, ?_, ?_, ?_, ?_, ?_, ?_, ?_, ?_, ?_, ?_, ?_, ?_, ?_, ?_, ?_, ?_, ?_, ?_, ?_, ?_, ?_, ?_, ?_, ?_, ?_, ?_, ?_, ?_, ?_, ?_, ?_, ?_, ?_, ?_, ?_, ?_, ?_, ?_, ?_, ?_, ?_, ?_, ?_, ?_, ?_, ?_, ?_, ?_, ?_, ?_, ?_, ?_, ?_, ?_, ?_, ?_, ?_, ?_, ?_, ?_, ?_, ?_, ?_, ?_, ?_, ?_, ?_, ?_, ?_, ?_, ?_, ?_, ?_, ?_, ?_, ?_, ?_, ?_, ?_, ?_, ?_, ?_, ?_, ?_, ?_, ?_, ?_, ?_, ?_, ?_, ?_, ?_, ?_, ?_, ?_, ?_, ?_, ?_, ?_, ?_, ?_, ?_, ?_, ?_, ?_, ?_, ?_, ?_, ?_, ?_, ?_, ?_, ?_, ?_, ?_, ?_, ?_, ?_, ?_, ?_, ?_, ?_, ?_, ?_, ?_, ?_, ?_, ?_, ?_, ?_, ?_, ?_, ?_, ?_, ?_, ?_, ?_, ?_, ?_, ?_, ?_, ?_, ?_, ?_, ?_, ?_, ?_, ?_, ?_, ?_, ?_, ?_, ?_, ?_, ?_, ?_, ?_, ?_, ?_, ?_, ?_, ?_, ?_, ?_, ?_, ?_, ?_, ?_, ?_, ?_, ?_, ?_, ?_, ?_, ?_, ?_, ?_, ?_, ?_, ?_, ?_, ?_, ?_, ?_, ?_, ?_, ?_, ?_, ?_, ?_, ?_, ?_, ?_, ?_, ?_, ?_, ?_, ?_, ?_, ?_, ?_, ?_, ?_, ?_, ?_, ?_, ?_, ?_, ?_, ?_, ?_, ?_, ?_, ?_, ?_, ?_, ?_, ?_, ?_, ?_, ?_, ?_, ?_, ?_, ?_, ?_, ?_, ?_, ?_, ?_, ?_, ?_, ?_, ?_, ?_, ?_, ?_, ?_, ?_, ?_, ?_, ?_, ?_, ?_, ?_, ?_, ?_, ?_, ?_, ?_, ?_, ?_, ?_, ?_, ?_, ?_, ?_, ?_, ?_, ?_, ?_, ?_, ?_, ?_, ?_, ?_, ?_, ?_, ?_, ?_, ?_, ?_, ?_, ?_, ?_, ?_⟩ <;> (intros; first | rfl | (exact propext ⟨fun h => h, fun h => h⟩) | (exact slots1 _ _) | (exact slotsT1 _ _) | (exact and_self_of rfl) | (exact get_app _ _ _) | (exact get_app0 _ _) | (exact take_app _ _ _) | (exact beq_app _ _ _) | (simp [AV.wo, AV.pub, AV.woL_eq, AV.pubL_eq, AObj.wo, AObj.pub, slots, slotsT, still, moved, keepT_get, rec1, Nat.add_assoc]; done) | (simp [AV.wo, AV.pub, AV.woL_eq, AV.pubL_eq, slots, slotsT, still, moved]; try rfl))
end Go.E
