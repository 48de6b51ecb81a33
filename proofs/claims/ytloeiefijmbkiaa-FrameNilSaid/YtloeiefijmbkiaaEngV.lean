/-
  THE ENGINE, PART V: the equations by which simp reckons what must be shown, as one theorem. Printed by a program of ours. No condition.
-/
import Derived.Test.YtloeiefijmbkiaaEngD
set_option linter.unusedSimpArgs false
set_option linter.unusedVariables false
set_option linter.unusedSectionVars false
namespace Go.E

theorem vc :
  (∀ (base : Nat→Value) (t : Nat), lk base [] t = (base t)) ∧
  (∀ (base : Nat→Value) (r : List (Nat × Value)) (s : Nat) (t : Nat) (v : Value), lk base ((s, v) :: r) t = (if t = s then v else lk base r t)) ∧
  (∀ (base : Nat→Value) (loc : List Value) (n : Nat) (t : Nat) (tmp : List (Nat×Value)), ev n base loc tmp (.tmp t) = (if t < n then loc.getD t undef else lk base tmp t)) ∧
  (∀ (base : Nat→Value) (loc : List Value) (n : Nat) (tmp : List (Nat×Value)) (v : Value), ev n base loc tmp (.const v) = (v)) ∧
  (∀ (base : Nat→Value) (g : Nat) (loc : List Value) (n : Nat) (tmp : List (Nat×Value)), ev n base loc tmp (.global g) = (.pointer (some ⟨g, 0, none⟩))) ∧
  (∀ (base : Nat→Value) (f : Nat) (loc : List Value) (n : Nat) (tmp : List (Nat×Value)), ev n base loc tmp (.func f) = (.func (.func f) #[] #[])) ∧
  (∀ (K2 : List Value→List (Nat×Value)→Prop) (loc : List Value) (n : Nat) (tmp : List (Nat×Value)) (v : Value), putK n none v loc tmp K2 = (K2 loc tmp)) ∧
  (∀ (K2 : List Value→List (Nat×Value)→Prop) (d : Tmp) (loc : List Value) (n : Nat) (tmp : List (Nat×Value)) (v : Value), putK n (some d) v loc tmp K2 = (if d < n then K2 (loc.set d v) tmp else K2 loc ((d, v) :: tmp))) ∧
  (∀ (A : Prop) (B : Prop), GuardP (.bool true) true A B = (A)) ∧
  (∀ (A : Prop) (B : Prop), GuardP (.bool false) false A B = (A)) ∧
  (∀ (A : Prop) (B : Prop), GuardP (.bool true) false A B = (B)) ∧
  (∀ (A : Prop) (B : Prop), GuardP (.bool false) true A B = (B)) ∧
  (∀ (A : Prop) (B : Prop) (b : Bool), GuardP (.tuple #[]) b A B = (B)) ∧
  (∀ (A : Prop) (B : Prop) (b : Bool), GuardP undef b A B = (B)) ∧
  (∀ (A : Prop) (B : Prop), CondP (.bool true) A B = (A)) ∧
  (∀ (A : Prop) (B : Prop), CondP (.bool false) A B = (B)) ∧
  (∀ (A : Prop) (B : Prop) (after : Array Edge) (d : Option Tmp) (look : Operand→Value) (o : Op) (ops : List Oper) (pos : String) (ty : TypeId), grdV ops ⟨d, o, ty, pos, after, none⟩ look A B = (A)) ∧
  (∀ (A : Prop) (B : Prop) (after : Array Edge) (b : Bool) (d : Option Tmp) (j : Nat) (look : Operand→Value) (o : Op) (ops : List Oper) (pos : String) (ty : TypeId), grdV ops ⟨d, o, ty, pos, after, some (j, b)⟩ look A B = (GuardP (gval ops j look) b A B)) ∧
  (∀ (j : Nat) (look : Operand→Value) (ops : List Oper), gval ops j look = (gvalo (ops[j]?) look)) ∧
  (∀ (after : Array Edge) (g : Option (Nat × Bool)) (look : Operand→Value) (o : Op) (pos : String) (t : Tmp) (ty : TypeId), gvalo (some ⟨some t, o, ty, pos, after, g⟩) look = (look (.tmp t))) ∧
  (∀ (K : Kont) (P : Program) (base : Nat→Value) (ds : List Nat) (loc : List Value) (n : Nat) (ops : List Oper) (tmp : List (Nat×Value)) (w : World), opsV P n base ops ds [] loc tmp w K = (K ds loc tmp w)) ∧
  (∀ (K : Kont) (P : Program) (after : Array Edge) (base : Nat→Value) (d : Option Tmp) (ds : List Nat) (g : Option (Nat × Bool)) (loc : List Value) (n : Nat) (o : Op) (ops : List Oper) (pos : String) (r : List Oper) (tmp : List (Nat×Value)) (ty : TypeId) (w : World), opsV P n base ops ds (⟨d, o, ty, pos, after, g⟩ :: r) loc tmp w K = (grdV ops ⟨d, o, ty, pos, after, g⟩ (ev n base loc tmp) (opV P (ev n base loc tmp) o ty w fun v w' => putK n d v loc tmp fun loc tmp => opsV P n base ops ds r loc tmp w' K) (putK n d undef loc tmp fun loc tmp => opsV P n base ops ds r loc tmp w K))) ∧
  (∀ (I : World→Prop) (K : Kont) (P : Program) (base : Nat→Value) (ds : List Nat) (loc : List Value) (n : Nat) (ops : List Oper) (tmp : List (Nat×Value)) (w : World), planV P n base ops I ds [] loc tmp w K = (K ds loc tmp w)) ∧
  (∀ (I : World→Prop) (K : Kont) (P : Program) (base : Nat→Value) (ds : List Nat) (i : Nat) (loc : List Value) (n : Nat) (ops : List Oper) (r : List (Nat × Bool)) (tmp : List (Nat×Value)) (w : World), planV P n base ops I ds ((i, true) :: r) loc tmp w K = (planO n base ops ops[i]? loc tmp (fun o => floatV P (ev n base loc tmp) o.op o.type I fun v => putK n o.dst v loc tmp fun loc tmp => planV P n base ops I ds r loc tmp w K) (fun o => putK n o.dst undef loc tmp fun loc tmp => planV P n base ops I ds r loc tmp w K))) ∧
  (∀ (I : World→Prop) (K : Kont) (P : Program) (base : Nat→Value) (ds : List Nat) (i : Nat) (loc : List Value) (n : Nat) (ops : List Oper) (tmp : List (Nat×Value)) (w : World), planV P n base ops I ds [(i, false)] loc tmp w K = (planO n base ops ops[i]? loc tmp (fun o => opV P (ev n base loc tmp) o.op o.type w fun v w' => putK n o.dst v loc tmp fun loc tmp => K ds loc tmp w') (fun o => putK n o.dst undef loc tmp fun loc tmp => K ds loc tmp w))) ∧
  (∀ (I : World→Prop) (K : Kont) (P : Program) (base : Nat→Value) (ds : List Nat) (i : Nat) (j : Nat × Bool) (loc : List Value) (n : Nat) (ops : List Oper) (r : List (Nat × Bool)) (tmp : List (Nat×Value)) (w : World), planV P n base ops I ds ((i, false) :: j :: r) loc tmp w K = (planO n base ops ops[i]? loc tmp (fun o => opV P (ev n base loc tmp) o.op o.type w fun v w' => I w' ∧ putK n o.dst v loc tmp fun loc tmp => planV P n base ops I ds (j :: r) loc tmp w' K) (fun o => putK n o.dst undef loc tmp fun loc tmp => planV P n base ops I ds (j :: r) loc tmp w K))) ∧
  (∀ (AO : Oper → Prop) (BO : Oper → Prop) (base : Nat→Value) (loc : List Value) (n : Nat) (o : Oper) (ops : List Oper) (tmp : List (Nat×Value)), planO n base ops (some o) loc tmp AO BO = (grdV ops o (ev n base loc tmp) (AO o) (BO o))) ∧
  (∀ (KW : Value→World→Prop) (P : Program) (o : Op) (ty : TypeId) (w : World) (ρ : Operand→Value), opV P ρ o ty w KW = (valV P ρ o ty (fun f args => callV P f args w KW) (fun s => RunV P s w KW) (fun v => KW v w))) ∧
  (∀ (I : World→Prop) (KV : Value→Prop) (P : Program) (o : Op) (ty : TypeId) (ρ : Operand→Value), floatV P ρ o ty I KV = (valV P ρ o ty (fun _ _ => False) (fun s => FloatP P s I KV) KV)) ∧
  (∀ (F : Sem Value→Prop) (G : Value→List Value→Prop) (KV : Value→Prop) (P : Program) (ty : TypeId) (x : Operand) (ρ : Operand→Value), valV P ρ (.move x) ty G F KV = (KV (ρ x))) ∧
  (∀ (F : Sem Value→Prop) (G : Value→List Value→Prop) (KV : Value→Prop) (P : Program) (ty : TypeId) (x : Operand) (ρ : Operand→Value), valV P ρ (.assign x) ty G F KV = (KV (ρ x))) ∧
  (∀ (F : Sem Value→Prop) (G : Value→List Value→Prop) (KV : Value→Prop) (P : Program) (a : Operand) (b : Operand) (c : Operand) (ty : TypeId) (ρ : Operand→Value), valV P ρ (.pick c a b) ty G F KV = (CondP (ρ c) (KV (ρ a)) (KV (ρ b)))) ∧
  (∀ (F : Sem Value→Prop) (G : Value→List Value→Prop) (KV : Value→Prop) (P : Program) (t : Nat) (ty : TypeId) (ρ : Operand→Value), valV P ρ (.alloc t) ty G F KV = (F (Instr.alloc t true (.tuple #[])))) ∧
  (∀ (F : Sem Value→Prop) (G : Value→List Value→Prop) (KV : Value→Prop) (P : Program) (t : Nat) (ty : TypeId) (x : Operand) (ρ : Operand→Value), valV P ρ (.box t x) ty G F KV = (F (Instr.box t (ρ x)))) ∧
  (∀ (F : Sem Value→Prop) (G : Value→List Value→Prop) (KV : Value→Prop) (P : Program) (ps : Array (Nat × Operand)) (t : Nat) (ty : TypeId) (ρ : Operand→Value), valV P ρ (.build t ps) ty G F KV = (F (Instr.build t (ps.map fun (i, x) => (i, ρ x))))) ∧
  (∀ (F : Sem Value→Prop) (G : Value→List Value→Prop) (KV : Value→Prop) (P : Program) (k : Nat) (ps : Array (Nat × Operand)) (t : Nat) (ty : TypeId) (ρ : Operand→Value), valV P ρ (.buildSlice t k ps) ty G F KV = (F (Instr.buildSlice t k (ps.map fun (i, x) => (i, ρ x))))) ∧
  (∀ (F : Sem Value→Prop) (G : Value→List Value→Prop) (KV : Value→Prop) (P : Program) (a : Operand) (t : Nat) (ty : TypeId) (ρ : Operand→Value), valV P ρ (.load t a) ty G F KV = (ptrV (ρ a) fun p => F (Instr.loadAt t (.pointer p)))) ∧
  (∀ (F : Sem Value→Prop) (G : Value→List Value→Prop) (KV : Value→Prop) (P : Program) (a : Operand) (t : Nat) (ty : TypeId) (x : Operand) (ρ : Operand→Value), valV P ρ (.store t a x) ty G F KV = (storeV t (ρ a) (ρ x) F)) ∧
  (∀ (F : Sem Value→Prop) (G : Value→List Value→Prop) (KV : Value→Prop) (P : Program) (ty : TypeId) (x : Operand) (ρ : Operand→Value), valV P ρ (.nilCheck x) ty G F KV = (ptrV (ρ x) fun p => p.isSome = true ∧ KV (.pointer p))) ∧
  (∀ (F : Sem Value→Prop) (G : Value→List Value→Prop) (KV : Value→Prop) (P : Program) (op : BinOp) (t : Nat) (ty : TypeId) (u : TypeId) (x : Operand) (y : Operand) (ρ : Operand→Value), valV P ρ (.binOp op t x y u) ty G F KV = (binV P op t (ρ x) (ρ y) x y F KV)) ∧
  (∀ (F : Sem Value→Prop) (G : Value→List Value→Prop) (KV : Value→Prop) (P : Program) (op : UnOp) (t : Nat) (ty : TypeId) (x : Operand) (ρ : Operand→Value), valV P ρ (.unOp op t x) ty G F KV = (unV op (ρ x) F KV)) ∧
  (∀ (F : Sem Value→Prop) (G : Value→List Value→Prop) (KV : Value→Prop) (P : Program) (s : Nat) (t : Nat) (ty : TypeId) (x : Operand) (ρ : Operand→Value), valV P ρ (.convert s t x) ty G F KV = (convV (tk P s) (tk P t) s t (ρ x) F KV)) ∧
  (∀ (F : Sem Value→Prop) (G : Value→List Value→Prop) (KV : Value→Prop) (P : Program) (c : Operand) (l : Operand) (t : Nat) (ty : TypeId) (ρ : Operand→Value), valV P ρ (.makeSlice t l c) ty G F KV = (F (Instr.makeSlice t (ρ l) (ρ c)))) ∧
  (∀ (F : Sem Value→Prop) (G : Value→List Value→Prop) (KV : Value→Prop) (P : Program) (hi : Option Operand) (lo : Option Operand) (mx : Option Operand) (t : Nat) (ty : TypeId) (x : Operand) (ρ : Operand→Value), valV P ρ (.slice t x lo hi mx) ty G F KV = (F (Instr.sliceAt t (ρ x) (lo.map ρ) (hi.map ρ) (mx.map ρ)))) ∧
  (∀ (F : Sem Value→Prop) (G : Value→List Value→Prop) (KV : Value→Prop) (P : Program) (f : Nat) (s : Nat) (ty : TypeId) (x : Operand) (ρ : Operand→Value), valV P ρ (.fieldAddr s x f) ty G F KV = (fldV (tfo P s f) (ρ x) KV)) ∧
  (∀ (F : Sem Value→Prop) (G : Value→List Value→Prop) (KV : Value→Prop) (P : Program) (f : Nat) (t : Nat) (ty : TypeId) (x : Operand) (ρ : Operand→Value), valV P ρ (.field t x f) ty G F KV = (F (Instr.field t (ρ x) f))) ∧
  (∀ (F : Sem Value→Prop) (G : Value→List Value→Prop) (KV : Value→Prop) (P : Program) (i : Operand) (t : Nat) (ty : TypeId) (x : Operand) (ρ : Operand→Value), valV P ρ (.indexAddr t x i) ty G F KV = (idxV P (tk P t) t (ρ x) (ρ i) F KV)) ∧
  (∀ (F : Sem Value→Prop) (G : Value→List Value→Prop) (KV : Value→Prop) (P : Program) (i : Operand) (t : Nat) (ty : TypeId) (x : Operand) (ρ : Operand→Value), valV P ρ (.index t x i) ty G F KV = (F (Instr.index t (ρ x) (ρ i)))) ∧
  (∀ (F : Sem Value→Prop) (G : Value→List Value→Prop) (KV : Value→Prop) (P : Program) (i : Nat) (t : Operand) (ty : TypeId) (ρ : Operand→Value), valV P ρ (.extract t i) ty G F KV = (extV (ρ t) i KV)) ∧
  (∀ (F : Sem Value→Prop) (G : Value→List Value→Prop) (KV : Value→Prop) (P : Program) (a : Array Operand) (c : Array Operand) (f : Fn) (ty : TypeId) (ρ : Operand→Value), valV P ρ (.makeFunc f a c) ty G F KV = (KV (.func f (a.map ρ) (c.map ρ)))) ∧
  (∀ (F : Sem Value→Prop) (G : Value→List Value→Prop) (KV : Value→Prop) (P : Program) (t : Nat) (ty : TypeId) (x : Operand) (ρ : Operand→Value), valV P ρ (.makeInterface t x) ty G F KV = (mkiV (tk P t) t (ρ x) KV)) ∧
  (∀ (F : Sem Value→Prop) (G : Value→List Value→Prop) (KV : Value→Prop) (P : Program) (ok : Bool) (t : Nat) (ty : TypeId) (u : TypeId) (x : Operand) (ρ : Operand→Value), valV P ρ (.typeAssert x t u ok) ty G F KV = (F (Instr.typeAssert (ρ x) t u ok))) ∧
  (∀ (F : Sem Value→Prop) (G : Value→List Value→Prop) (KV : Value→Prop) (P : Program) (m : Option Operand) (t : Nat) (ty : TypeId) (ρ : Operand→Value), valV P ρ (.makeMap t m) ty G F KV = (F (Instr.makeMap t (m.map ρ)))) ∧
  (∀ (F : Sem Value→Prop) (G : Value→List Value→Prop) (KV : Value→Prop) (P : Program) (i : Operand) (ok : Bool) (t : Nat) (ty : TypeId) (x : Operand) (ρ : Operand→Value), valV P ρ (.lookup t x i ok) ty G F KV = (F (Instr.lookup t (ρ x) (ρ i) ok))) ∧
  (∀ (F : Sem Value→Prop) (G : Value→List Value→Prop) (KV : Value→Prop) (P : Program) (k : Operand) (m : Operand) (t : Nat) (ty : TypeId) (x : Operand) (ρ : Operand→Value), valV P ρ (.mapUpdate t m k x) ty G F KV = (F (do Instr.mapUpdate t (ρ m) (ρ k) (ρ x); pure undef))) ∧
  (∀ (F : Sem Value→Prop) (G : Value→List Value→Prop) (KV : Value→Prop) (P : Program) (k : Operand) (m : Operand) (t : Nat) (ty : TypeId) (x : Operand) (ρ : Operand→Value), valV P ρ (.insert t m k x) ty G F KV = (F (do Instr.mapUpdate t (ρ m) (ρ k) (ρ x); pure undef))) ∧
  (∀ (F : Sem Value→Prop) (G : Value→List Value→Prop) (KV : Value→Prop) (P : Program) (k : Operand) (m : Operand) (t : Nat) (ty : TypeId) (ρ : Operand→Value), valV P ρ (.mapEntry t m k) ty G F KV = (F (Instr.mapEntry t (ρ m) (ρ k)))) ∧
  (∀ (F : Sem Value→Prop) (G : Value→List Value→Prop) (KV : Value→Prop) (P : Program) (m : Operand) (s : Operand) (t : Nat) (ty : TypeId) (x : Operand) (ρ : Operand→Value), valV P ρ (.entryStore t m s x) ty G F KV = (F (do Instr.entryStore t (ρ m) (ρ s) (ρ x); pure undef))) ∧
  (∀ (F : Sem Value→Prop) (G : Value→List Value→Prop) (KV : Value→Prop) (P : Program) (t : Nat) (ty : TypeId) (x : Operand) (ρ : Operand→Value), valV P ρ (.range t x) ty G F KV = (F (Instr.range t (ρ x)))) ∧
  (∀ (F : Sem Value→Prop) (G : Value→List Value→Prop) (KV : Value→Prop) (P : Program) (b : Bool) (ty : TypeId) (x : Operand) (ρ : Operand→Value), valV P ρ (.next x b) ty G F KV = (F (Instr.next (ρ x) b ty))) ∧
  (∀ (F : Sem Value→Prop) (G : Value→List Value→Prop) (KV : Value→Prop) (P : Program) (ty : TypeId) (x : Operand) (ρ : Operand→Value), valV P ρ (.entry x) ty G F KV = (F (Instr.entry (ρ x)))) ∧
  (∀ (F : Sem Value→Prop) (G : Value→List Value→Prop) (KV : Value→Prop) (P : Program) (args : Array Operand) (bi : Builtin) (ts : Array TypeId) (ty : TypeId) (ρ : Operand→Value), valV P ρ (.call ⟨.builtin bi, args, ts⟩) ty G F KV = (builtinV P bi ts ty (args.toList.map ρ) F KV)) ∧
  (∀ (F : Sem Value→Prop) (G : Value→List Value→Prop) (KV : Value→Prop) (P : Program) (args : Array Operand) (ts : Array TypeId) (ty : TypeId) (x : Operand) (ρ : Operand→Value), valV P ρ (.call ⟨.value x, args, ts⟩) ty G F KV = (G (ρ x) (args.toList.map ρ))) ∧
  (∀ (KA : Option Addr→Prop) (a : Option Addr), ptrV (.pointer a) KA = (KA a)) ∧
  (∀ (F : Sem Value→Prop) (KV : Value→Prop) (b : Bool), unV .not (.bool b) F KV = (KV (.bool (!b)))) ∧
  (∀ (F : Sem Value→Prop) (KV : Value→Prop) (k : IntKind) (x : Int), unV .neg (.int k x) F KV = (KV (.int k (k.wrap (0 - x))))) ∧
  (∀ (F : Sem Value→Prop) (KV : Value→Prop) (k1 : IntKind) (k2 : IntKind) (k3 : IntKind) (s : Nat) (t : Nat) (x : Int), convV (.int k1) (.int k2) s t (.int k3 x) F KV = (KV (.int k2 (k2.wrap x)))) ∧
  (∀ (F : Sem Value→Prop) (KV : Value→Prop) (s : Nat) (s2 : Nat) (t : Nat) (x : Value), convV (.string) (.slice s2) s t x F KV = (F (convert s t x))) ∧
  (∀ (F : Sem Value→Prop) (KV : Value→Prop) (s : Nat) (s2 : Nat) (t : Nat) (x : Value), convV (.slice s2) (.string) s t x F KV = (F (convert s t x))) ∧
  (∀ (F : Sem Value→Prop) (KV : Value→Prop) (s : Nat) (s2 : Nat) (s3 : Nat) (t : Nat) (x : Value), convV (.slice s2) (.slice s3) s t x F KV = (F (convert s t x))) ∧
  (∀ (F : Sem Value→Prop) (KV : Value→Prop) (s : Nat) (t : Nat) (x : Value), convV (.string) (.string) s t x F KV = (F (convert s t x))) ∧
  (∀ (KV : Value→Prop) (a : Option Addr) (f : Nat), fldV (some f) (.pointer a) KV = (a.isSome = true ∧ KV (.pointer (sh a f)))) ∧
  (∀ (F : Sem Value→Prop) (KV : Value→Prop) (P : Program) (i : Value) (s : Nat) (t : Nat) (x : Value), idxV P (.slice s) t x i F KV = (slV (tsz P s) x i (F (Instr.indexAt t x i)) KV)) ∧
  (∀ (F : Sem Value→Prop) (KV : Value→Prop) (P : Program) (i : Value) (s : Nat) (s2 : Nat) (t : Nat) (x : Value), idxV P (.array s s2) t x i F KV = (F (Instr.indexAt t x i))) ∧
  (∀ (A : Prop) (KV : Value→Prop) (a : Option Addr) (c : Nat) (f : Nat) (j : Nat) (k : IntKind) (x : Int), slV (f + 1) (.slice a j c) (.int k x) A KV = ((0 ≤ x ∧ x < j ∧ a.isSome = true) ∧ KV (.pointer (sh a (x.toNat * (f + 1)))))) ∧
  (∀ (KV : Value→Prop) (j : Nat) (l : List Value), extV (.tuple ⟨l⟩) j KV = (extO l[j]? KV)) ∧
  (∀ (KV : Value→Prop) (v : Value), extO (some v) KV = (KV v)) ∧
  (∀ (KV : Value→Prop) (k : IntKind) (t : Nat) (x : Value), mkiV (.int k) t x KV = (KV (.iface t x))) ∧
  (∀ (KV : Value→Prop) (t : Nat) (x : Value), mkiV (.bool) t x KV = (KV (.iface t x))) ∧
  (∀ (KV : Value→Prop) (t : Nat) (x : Value), mkiV (.string) t x KV = (KV (.iface t x))) ∧
  (∀ (KV : Value→Prop) (s : Nat) (t : Nat) (x : Value), mkiV (.pointer s) t x KV = (KV (.iface t x))) ∧
  (∀ (KV : Value→Prop) (s : Nat) (t : Nat) (x : Value), mkiV (.slice s) t x KV = (KV (.iface t x))) ∧
  (∀ (KV : Value→Prop) (s : Nat) (s2 : Nat) (t : Nat) (x : Value), mkiV (.array s s2) t x KV = (KV (.iface t x))) ∧
  (∀ (KV : Value→Prop) (s : Nat) (s2 : Nat) (t : Nat) (x : Value), mkiV (.map s s2) t x KV = (KV (.iface t x))) ∧
  (∀ (KV : Value→Prop) (fs : Array Field) (t : Nat) (x : Value), mkiV (.struct fs) t x KV = (KV (.iface t x))) ∧
  (∀ (F : Sem Value→Prop) (KV : Value→Prop) (P : Program) (k : IntKind) (k2 : IntKind) (t : Nat) (x : Int) (xo : Operand) (y : Int) (yo : Operand), binV P .add t (.int k x) (.int k2 y) xo yo F KV = (k = k2 ∧ intV .add k x y KV)) ∧
  (∀ (F : Sem Value→Prop) (KV : Value→Prop) (P : Program) (k : IntKind) (k2 : IntKind) (t : Nat) (x : Int) (xo : Operand) (y : Int) (yo : Operand), binV P .sub t (.int k x) (.int k2 y) xo yo F KV = (k = k2 ∧ intV .sub k x y KV)) ∧
  (∀ (F : Sem Value→Prop) (KV : Value→Prop) (P : Program) (k : IntKind) (k2 : IntKind) (t : Nat) (x : Int) (xo : Operand) (y : Int) (yo : Operand), binV P .mul t (.int k x) (.int k2 y) xo yo F KV = (k = k2 ∧ intV .mul k x y KV)) ∧
  (∀ (F : Sem Value→Prop) (KV : Value→Prop) (P : Program) (k : IntKind) (k2 : IntKind) (t : Nat) (x : Int) (xo : Operand) (y : Int) (yo : Operand), binV P .quo t (.int k x) (.int k2 y) xo yo F KV = (k = k2 ∧ intV .quo k x y KV)) ∧
  (∀ (F : Sem Value→Prop) (KV : Value→Prop) (P : Program) (k : IntKind) (k2 : IntKind) (t : Nat) (x : Int) (xo : Operand) (y : Int) (yo : Operand), binV P .rem t (.int k x) (.int k2 y) xo yo F KV = (k = k2 ∧ intV .rem k x y KV)) ∧
  (∀ (F : Sem Value→Prop) (KV : Value→Prop) (P : Program) (k : IntKind) (k2 : IntKind) (t : Nat) (x : Int) (xo : Operand) (y : Int) (yo : Operand), binV P .and t (.int k x) (.int k2 y) xo yo F KV = (k = k2 ∧ intV .and k x y KV)) ∧
  (∀ (F : Sem Value→Prop) (KV : Value→Prop) (P : Program) (k : IntKind) (k2 : IntKind) (t : Nat) (x : Int) (xo : Operand) (y : Int) (yo : Operand), binV P .or t (.int k x) (.int k2 y) xo yo F KV = (k = k2 ∧ intV .or k x y KV)) ∧
  (∀ (F : Sem Value→Prop) (KV : Value→Prop) (P : Program) (k : IntKind) (k2 : IntKind) (t : Nat) (x : Int) (xo : Operand) (y : Int) (yo : Operand), binV P .xor t (.int k x) (.int k2 y) xo yo F KV = (k = k2 ∧ intV .xor k x y KV)) ∧
  (∀ (F : Sem Value→Prop) (KV : Value→Prop) (P : Program) (k : IntKind) (k2 : IntKind) (t : Nat) (x : Int) (xo : Operand) (y : Int) (yo : Operand), binV P .andNot t (.int k x) (.int k2 y) xo yo F KV = (k = k2 ∧ intV .andNot k x y KV)) ∧
  (∀ (F : Sem Value→Prop) (KV : Value→Prop) (P : Program) (k : IntKind) (k2 : IntKind) (t : Nat) (x : Int) (xo : Operand) (y : Int) (yo : Operand), binV P .eql t (.int k x) (.int k2 y) xo yo F KV = (k = k2 ∧ intV .eql k x y KV)) ∧
  (∀ (F : Sem Value→Prop) (KV : Value→Prop) (P : Program) (k : IntKind) (k2 : IntKind) (t : Nat) (x : Int) (xo : Operand) (y : Int) (yo : Operand), binV P .neq t (.int k x) (.int k2 y) xo yo F KV = (k = k2 ∧ intV .neq k x y KV)) ∧
  (∀ (F : Sem Value→Prop) (KV : Value→Prop) (P : Program) (k : IntKind) (k2 : IntKind) (t : Nat) (x : Int) (xo : Operand) (y : Int) (yo : Operand), binV P .lss t (.int k x) (.int k2 y) xo yo F KV = (k = k2 ∧ intV .lss k x y KV)) ∧
  (∀ (F : Sem Value→Prop) (KV : Value→Prop) (P : Program) (k : IntKind) (k2 : IntKind) (t : Nat) (x : Int) (xo : Operand) (y : Int) (yo : Operand), binV P .leq t (.int k x) (.int k2 y) xo yo F KV = (k = k2 ∧ intV .leq k x y KV)) ∧
  (∀ (F : Sem Value→Prop) (KV : Value→Prop) (P : Program) (k : IntKind) (k2 : IntKind) (t : Nat) (x : Int) (xo : Operand) (y : Int) (yo : Operand), binV P .gtr t (.int k x) (.int k2 y) xo yo F KV = (k = k2 ∧ intV .gtr k x y KV)) ∧
  (∀ (F : Sem Value→Prop) (KV : Value→Prop) (P : Program) (k : IntKind) (k2 : IntKind) (t : Nat) (x : Int) (xo : Operand) (y : Int) (yo : Operand), binV P .geq t (.int k x) (.int k2 y) xo yo F KV = (k = k2 ∧ intV .geq k x y KV)) ∧
  (∀ (F : Sem Value→Prop) (KV : Value→Prop) (P : Program) (k : IntKind) (k2 : IntKind) (t : Nat) (x : Int) (xo : Operand) (y : Int) (yo : Operand), binV P .shl t (.int k x) (.int k2 y) xo yo F KV = (shiftV .shl k x y KV)) ∧
  (∀ (F : Sem Value→Prop) (KV : Value→Prop) (P : Program) (k : IntKind) (k2 : IntKind) (t : Nat) (x : Int) (xo : Operand) (y : Int) (yo : Operand), binV P .shr t (.int k x) (.int k2 y) xo yo F KV = (shiftV .shr k x y KV)) ∧
  (∀ (F : Sem Value→Prop) (KV : Value→Prop) (P : Program) (a1 : Bool) (b1 : Bool) (t : Nat) (xo : Operand) (yo : Operand), binV P .eql t (.bool a1) (.bool b1) xo yo F KV = (bolV (tk P t) (KV (.bool (a1 == b1))))) ∧
  (∀ (F : Sem Value→Prop) (KV : Value→Prop) (P : Program) (a1 : Bool) (b1 : Bool) (t : Nat) (xo : Operand) (yo : Operand), binV P .neq t (.bool a1) (.bool b1) xo yo F KV = (bolV (tk P t) (KV (.bool (!(a1 == b1)))))) ∧
  (∀ (F : Sem Value→Prop) (KV : Value→Prop) (P : Program) (a : Option Addr) (t : Nat) (xo : Operand) (yo : Operand), binV P .eql t (.pointer a) (.pointer none) xo yo F KV = (pntV (tk P t) (KV (.bool a.isNone)))) ∧
  (∀ (F : Sem Value→Prop) (KV : Value→Prop) (P : Program) (a : Option Addr) (t : Nat) (xo : Operand) (yo : Operand), binV P .neq t (.pointer a) (.pointer none) xo yo F KV = (pntV (tk P t) (KV (.bool (!a.isNone))))) ∧
  (∀ (F : Sem Value→Prop) (KV : Value→Prop) (P : Program) (t : Nat) (x1 : ByteArray) (xo : Operand) (y1 : ByteArray) (yo : Operand), binV P .eql t (.string x1) (.string y1) xo yo F KV = (F (do eqGuard .eql t xo yo (.string x1) (.string y1); binOp .eql t (.string x1) (.string y1)))) ∧
  (∀ (F : Sem Value→Prop) (KV : Value→Prop) (P : Program) (t : Nat) (x2 : Array Value) (xo : Operand) (y2 : Array Value) (yo : Operand), binV P .eql t (.agg x2) (.agg y2) xo yo F KV = (F (do eqGuard .eql t xo yo (.agg x2) (.agg y2); binOp .eql t (.agg x2) (.agg y2)))) ∧
  (∀ (F : Sem Value→Prop) (KV : Value→Prop) (P : Program) (t : Nat) (x3 : TypeId) (x4 : Value) (xo : Operand) (y3 : TypeId) (y4 : Value) (yo : Operand), binV P .eql t (.iface x3 x4) (.iface y3 y4) xo yo F KV = (F (do eqGuard .eql t xo yo (.iface x3 x4) (.iface y3 y4); binOp .eql t (.iface x3 x4) (.iface y3 y4)))) ∧
  (∀ (F : Sem Value→Prop) (KV : Value→Prop) (P : Program) (t : Nat) (x3 : TypeId) (x4 : Value) (xo : Operand) (yo : Operand), binV P .eql t (.iface x3 x4) (.nilIface) xo yo F KV = (F (do eqGuard .eql t xo yo (.iface x3 x4) (.nilIface); binOp .eql t (.iface x3 x4) (.nilIface)))) ∧
  (∀ (F : Sem Value→Prop) (KV : Value→Prop) (P : Program) (t : Nat) (xo : Operand) (yo : Operand), binV P .eql t (.nilIface) (.nilIface) xo yo F KV = (F (do eqGuard .eql t xo yo (.nilIface) (.nilIface); binOp .eql t (.nilIface) (.nilIface)))) ∧
  (∀ (F : Sem Value→Prop) (KV : Value→Prop) (P : Program) (t : Nat) (xo : Operand) (y3 : TypeId) (y4 : Value) (yo : Operand), binV P .eql t (.nilIface) (.iface y3 y4) xo yo F KV = (F (do eqGuard .eql t xo yo (.nilIface) (.iface y3 y4); binOp .eql t (.nilIface) (.iface y3 y4)))) ∧
  (∀ (F : Sem Value→Prop) (KV : Value→Prop) (P : Program) (t : Nat) (x5 : Option Addr) (x6 : Nat) (x7 : Nat) (xo : Operand) (y5 : Option Addr) (y6 : Nat) (y7 : Nat) (yo : Operand), binV P .eql t (.slice x5 x6 x7) (.slice y5 y6 y7) xo yo F KV = (F (do eqGuard .eql t xo yo (.slice x5 x6 x7) (.slice y5 y6 y7); binOp .eql t (.slice x5 x6 x7) (.slice y5 y6 y7)))) ∧
  (∀ (F : Sem Value→Prop) (KV : Value→Prop) (P : Program) (t : Nat) (x8 : Option Nat) (xo : Operand) (y8 : Option Nat) (yo : Operand), binV P .eql t (.map x8) (.map y8) xo yo F KV = (F (do eqGuard .eql t xo yo (.map x8) (.map y8); binOp .eql t (.map x8) (.map y8)))) ∧
  (∀ (F : Sem Value→Prop) (KV : Value→Prop) (P : Program) (t : Nat) (xo : Operand) (yo : Operand), binV P .eql t (.nilFunc) (.nilFunc) xo yo F KV = (F (do eqGuard .eql t xo yo (.nilFunc) (.nilFunc); binOp .eql t (.nilFunc) (.nilFunc)))) ∧
  (∀ (F : Sem Value→Prop) (KV : Value→Prop) (P : Program) (t : Nat) (xo : Operand) (y10 : Array Value) (y11 : Array Value) (y9 : Fn) (yo : Operand), binV P .eql t (.nilFunc) (.func y9 y10 y11) xo yo F KV = (F (do eqGuard .eql t xo yo (.nilFunc) (.func y9 y10 y11); binOp .eql t (.nilFunc) (.func y9 y10 y11)))) ∧
  (∀ (F : Sem Value→Prop) (KV : Value→Prop) (P : Program) (t : Nat) (x10 : Array Value) (x11 : Array Value) (x9 : Fn) (xo : Operand) (yo : Operand), binV P .eql t (.func x9 x10 x11) (.nilFunc) xo yo F KV = (F (do eqGuard .eql t xo yo (.func x9 x10 x11) (.nilFunc); binOp .eql t (.func x9 x10 x11) (.nilFunc)))) ∧
  (∀ (F : Sem Value→Prop) (KV : Value→Prop) (P : Program) (t : Nat) (x1 : ByteArray) (xo : Operand) (y1 : ByteArray) (yo : Operand), binV P .neq t (.string x1) (.string y1) xo yo F KV = (F (do eqGuard .neq t xo yo (.string x1) (.string y1); binOp .neq t (.string x1) (.string y1)))) ∧
  (∀ (F : Sem Value→Prop) (KV : Value→Prop) (P : Program) (t : Nat) (x2 : Array Value) (xo : Operand) (y2 : Array Value) (yo : Operand), binV P .neq t (.agg x2) (.agg y2) xo yo F KV = (F (do eqGuard .neq t xo yo (.agg x2) (.agg y2); binOp .neq t (.agg x2) (.agg y2)))) ∧
  (∀ (F : Sem Value→Prop) (KV : Value→Prop) (P : Program) (t : Nat) (x3 : TypeId) (x4 : Value) (xo : Operand) (y3 : TypeId) (y4 : Value) (yo : Operand), binV P .neq t (.iface x3 x4) (.iface y3 y4) xo yo F KV = (F (do eqGuard .neq t xo yo (.iface x3 x4) (.iface y3 y4); binOp .neq t (.iface x3 x4) (.iface y3 y4)))) ∧
  (∀ (F : Sem Value→Prop) (KV : Value→Prop) (P : Program) (t : Nat) (x3 : TypeId) (x4 : Value) (xo : Operand) (yo : Operand), binV P .neq t (.iface x3 x4) (.nilIface) xo yo F KV = (F (do eqGuard .neq t xo yo (.iface x3 x4) (.nilIface); binOp .neq t (.iface x3 x4) (.nilIface)))) ∧
  (∀ (F : Sem Value→Prop) (KV : Value→Prop) (P : Program) (t : Nat) (xo : Operand) (yo : Operand), binV P .neq t (.nilIface) (.nilIface) xo yo F KV = (F (do eqGuard .neq t xo yo (.nilIface) (.nilIface); binOp .neq t (.nilIface) (.nilIface)))) ∧
  (∀ (F : Sem Value→Prop) (KV : Value→Prop) (P : Program) (t : Nat) (xo : Operand) (y3 : TypeId) (y4 : Value) (yo : Operand), binV P .neq t (.nilIface) (.iface y3 y4) xo yo F KV = (F (do eqGuard .neq t xo yo (.nilIface) (.iface y3 y4); binOp .neq t (.nilIface) (.iface y3 y4)))) ∧
  (∀ (F : Sem Value→Prop) (KV : Value→Prop) (P : Program) (t : Nat) (x5 : Option Addr) (x6 : Nat) (x7 : Nat) (xo : Operand) (y5 : Option Addr) (y6 : Nat) (y7 : Nat) (yo : Operand), binV P .neq t (.slice x5 x6 x7) (.slice y5 y6 y7) xo yo F KV = (F (do eqGuard .neq t xo yo (.slice x5 x6 x7) (.slice y5 y6 y7); binOp .neq t (.slice x5 x6 x7) (.slice y5 y6 y7)))) ∧
  (∀ (F : Sem Value→Prop) (KV : Value→Prop) (P : Program) (t : Nat) (x8 : Option Nat) (xo : Operand) (y8 : Option Nat) (yo : Operand), binV P .neq t (.map x8) (.map y8) xo yo F KV = (F (do eqGuard .neq t xo yo (.map x8) (.map y8); binOp .neq t (.map x8) (.map y8)))) ∧
  (∀ (F : Sem Value→Prop) (KV : Value→Prop) (P : Program) (t : Nat) (xo : Operand) (yo : Operand), binV P .neq t (.nilFunc) (.nilFunc) xo yo F KV = (F (do eqGuard .neq t xo yo (.nilFunc) (.nilFunc); binOp .neq t (.nilFunc) (.nilFunc)))) ∧
  (∀ (F : Sem Value→Prop) (KV : Value→Prop) (P : Program) (t : Nat) (xo : Operand) (y10 : Array Value) (y11 : Array Value) (y9 : Fn) (yo : Operand), binV P .neq t (.nilFunc) (.func y9 y10 y11) xo yo F KV = (F (do eqGuard .neq t xo yo (.nilFunc) (.func y9 y10 y11); binOp .neq t (.nilFunc) (.func y9 y10 y11)))) ∧
  (∀ (F : Sem Value→Prop) (KV : Value→Prop) (P : Program) (t : Nat) (x10 : Array Value) (x11 : Array Value) (x9 : Fn) (xo : Operand) (yo : Operand), binV P .neq t (.func x9 x10 x11) (.nilFunc) xo yo F KV = (F (do eqGuard .neq t xo yo (.func x9 x10 x11) (.nilFunc); binOp .neq t (.func x9 x10 x11) (.nilFunc)))) ∧
  (∀ (F : Sem Value→Prop) (KV : Value→Prop) (P : Program) (t : Nat) (x1 : ByteArray) (xo : Operand) (y1 : ByteArray) (yo : Operand), binV P .add t (.string x1) (.string y1) xo yo F KV = (F (do eqGuard .add t xo yo (.string x1) (.string y1); binOp .add t (.string x1) (.string y1)))) ∧
  (∀ (F : Sem Value→Prop) (KV : Value→Prop) (P : Program) (t : Nat) (x1 : ByteArray) (xo : Operand) (y1 : ByteArray) (yo : Operand), binV P .lss t (.string x1) (.string y1) xo yo F KV = (F (do eqGuard .lss t xo yo (.string x1) (.string y1); binOp .lss t (.string x1) (.string y1)))) ∧
  (∀ (F : Sem Value→Prop) (KV : Value→Prop) (P : Program) (t : Nat) (x1 : ByteArray) (xo : Operand) (y1 : ByteArray) (yo : Operand), binV P .leq t (.string x1) (.string y1) xo yo F KV = (F (do eqGuard .leq t xo yo (.string x1) (.string y1); binOp .leq t (.string x1) (.string y1)))) ∧
  (∀ (F : Sem Value→Prop) (KV : Value→Prop) (P : Program) (t : Nat) (x1 : ByteArray) (xo : Operand) (y1 : ByteArray) (yo : Operand), binV P .gtr t (.string x1) (.string y1) xo yo F KV = (F (do eqGuard .gtr t xo yo (.string x1) (.string y1); binOp .gtr t (.string x1) (.string y1)))) ∧
  (∀ (F : Sem Value→Prop) (KV : Value→Prop) (P : Program) (t : Nat) (x1 : ByteArray) (xo : Operand) (y1 : ByteArray) (yo : Operand), binV P .geq t (.string x1) (.string y1) xo yo F KV = (F (do eqGuard .geq t xo yo (.string x1) (.string y1); binOp .geq t (.string x1) (.string y1)))) ∧
  (∀ (A : Prop), bolV .bool A = (A)) ∧
  (∀ (A : Prop) (s : Nat), pntV (.pointer s) A = (A)) ∧
  (∀ (KV : Value→Prop) (k : IntKind) (x : Int) (y : Int), intV .add k x y KV = (KV (.int k (k.wrap (x + y))))) ∧
  (∀ (KV : Value→Prop) (k : IntKind) (x : Int) (y : Int), intV .sub k x y KV = (KV (.int k (k.wrap (x - y))))) ∧
  (∀ (KV : Value→Prop) (k : IntKind) (x : Int) (y : Int), intV .mul k x y KV = (KV (.int k (k.wrap (x * y))))) ∧
  (∀ (KV : Value→Prop) (k : IntKind) (x : Int) (y : Int), intV .quo k x y KV = (y ≠ 0 ∧ KV (.int k (k.wrap (x.tdiv y))))) ∧
  (∀ (KV : Value→Prop) (k : IntKind) (x : Int) (y : Int), intV .rem k x y KV = (y ≠ 0 ∧ KV (.int k (x.tmod y)))) ∧
  (∀ (KV : Value→Prop) (k : IntKind) (x : Int) (y : Int), intV .eql k x y KV = (KV (.bool (decide (x = y))))) ∧
  (∀ (KV : Value→Prop) (k : IntKind) (x : Int) (y : Int), intV .neq k x y KV = (KV (.bool (!decide (x = y))))) ∧
  (∀ (KV : Value→Prop) (k : IntKind) (x : Int) (y : Int), intV .lss k x y KV = (KV (.bool (decide (x < y))))) ∧
  (∀ (KV : Value→Prop) (k : IntKind) (x : Int) (y : Int), intV .leq k x y KV = (KV (.bool (decide (x ≤ y))))) ∧
  (∀ (KV : Value→Prop) (k : IntKind) (x : Int) (y : Int), intV .gtr k x y KV = (KV (.bool (decide (y < x))))) ∧
  (∀ (KV : Value→Prop) (k : IntKind) (x : Int) (y : Int), intV .geq k x y KV = (KV (.bool (decide (y ≤ x))))) ∧
  (∀ (KV : Value→Prop) (k : IntKind) (x : Int) (y : Int), intV .and k x y KV = (KV (.int k (k.wrap (BitVec.ofInt k.bits x &&& BitVec.ofInt k.bits y).toNat)))) ∧
  (∀ (KV : Value→Prop) (k : IntKind) (x : Int) (y : Int), intV .or k x y KV = (KV (.int k (k.wrap (BitVec.ofInt k.bits x ||| BitVec.ofInt k.bits y).toNat)))) ∧
  (∀ (KV : Value→Prop) (k : IntKind) (x : Int) (y : Int), intV .xor k x y KV = (KV (.int k (k.wrap (BitVec.ofInt k.bits x ^^^ BitVec.ofInt k.bits y).toNat)))) ∧
  (∀ (KV : Value→Prop) (k : IntKind) (x : Int) (y : Int), intV .andNot k x y KV = (KV (.int k (k.wrap (BitVec.ofInt k.bits x &&& ~~~ BitVec.ofInt k.bits y).toNat)))) ∧
  (∀ (KV : Value→Prop) (k : IntKind) (x : Int) (y : Int), shiftV .shl k x y KV = (0 ≤ y ∧ KV (.int k (k.wrap (x * 2 ^ (min y.toNat k.bits)))))) ∧
  (∀ (KV : Value→Prop) (k : IntKind) (x : Int) (y : Int), shiftV .shr k x y KV = (0 ≤ y ∧ KV (.int k (x.fdiv (2 ^ (min y.toNat k.bits)))))) ∧
  (∀ (F : Sem Value→Prop) (KV : Value→Prop) (P : Program) (t : Nat) (ty : TypeId) (xs : List Value), builtinV P .len #[t] ty xs F KV = (lenV P (tk P t) #[t] xs ty F KV)) ∧
  (∀ (F : Sem Value→Prop) (KV : Value→Prop) (P : Program) (a : Option Addr) (c : Nat) (j : Nat) (s : Nat) (ts : Array TypeId) (ty : TypeId), lenV P (.slice s) ts [.slice a j c] ty F KV = (KV (.int .i64 j))) ∧
  (∀ (F : Sem Value→Prop) (KV : Value→Prop) (P : Program) (ts : Array TypeId) (ty : TypeId) (x1 : ByteArray), lenV P .string ts [.string x1] ty F KV = (KV (.int .i64 x1.size))) ∧
  (∀ (F : Sem Value→Prop) (KV : Value→Prop) (P : Program) (s : Nat) (s2 : Nat) (ts : Array TypeId) (ty : TypeId) (xs : List Value), lenV P (.map s s2) ts xs ty F KV = (F (Builtin.len_ ts ty xs.toArray))) ∧
  (∀ (F : Sem Value→Prop) (KV : Value→Prop) (P : Program) (c : Nat) (j : Nat) (ts : Array TypeId) (ty : TypeId) (v : Value), lenV P (.array j c) ts [v] ty F KV = (KV (.int .i64 j))) ∧
  (∀ (F : Sem Value→Prop) (KV : Value→Prop) (P : Program) (ts : Array TypeId) (ty : TypeId) (xs : List Value), builtinV P .append ts ty xs F KV = (F (Builtin.append_ ts ty xs.toArray))) ∧
  (∀ (F : Sem Value→Prop) (KV : Value→Prop) (P : Program) (ts : Array TypeId) (ty : TypeId) (xs : List Value), builtinV P .cap ts ty xs F KV = (F (Builtin.cap_ ts ty xs.toArray))) ∧
  (∀ (F : Sem Value→Prop) (KV : Value→Prop) (P : Program) (ts : Array TypeId) (ty : TypeId) (xs : List Value), builtinV P .clear ts ty xs F KV = (F (Builtin.clear_ ts ty xs.toArray))) ∧
  (∀ (F : Sem Value→Prop) (KV : Value→Prop) (P : Program) (ts : Array TypeId) (ty : TypeId) (xs : List Value), builtinV P .copy ts ty xs F KV = (F (Builtin.copy_ ts ty xs.toArray))) ∧
  (∀ (F : Sem Value→Prop) (KV : Value→Prop) (P : Program) (ts : Array TypeId) (ty : TypeId) (xs : List Value), builtinV P .delete ts ty xs F KV = (F (Builtin.delete_ ts ty xs.toArray))) ∧
  (∀ (F : Sem Value→Prop) (KV : Value→Prop) (P : Program) (ts : Array TypeId) (ty : TypeId) (xs : List Value), builtinV P .max ts ty xs F KV = (F (Builtin.max_ ts ty xs.toArray))) ∧
  (∀ (F : Sem Value→Prop) (KV : Value→Prop) (P : Program) (ts : Array TypeId) (ty : TypeId) (xs : List Value), builtinV P .min ts ty xs F KV = (F (Builtin.min_ ts ty xs.toArray))) ∧
  (∀ (KW : Value→World→Prop) (P : Program) (g : Nat) (va : Array Value) (vb : Array Value) (w : World) (xs : List Value), callV P (.func (.func g) va vb) xs w KW = (callE (entered P g) P g (va ++ xs.toArray ++ vb) w KW)) ∧
  (∀ (KW : Value→World→Prop) (P : Program) (g : Nat) (va : Array Value) (w : World), callE true P g va w KW = (Ret P g va w KW)) ∧
  (∀ (KW : Value→World→Prop) (P : Program) (g : Nat) (va : Array Value) (w : World), callE false P g va w KW = (RunV P (do match ← callFunc g va with | .value v => pure v | _ => stuck "") w KW)) ∧
  (∀ (KW : Value→World→Prop) (P : Program) (id : Nat) (va : Array Value) (vb : Array Value) (w : World) (xs : List Value), callV P (.func (.yield id) va vb) xs w KW = (Yld P id (va ++ xs.toArray) w KW)) ∧
  (∀ (N : Kont) (P : Program) (R : Kont) (X : Nat→Kont) (ds : List Nat) (loc : List Value) (m : Nat) (n : Nat) (ro : Option Nat) (tmp : List (Nat×Value)) (w : World), codeV P ro n m (.skip) ds loc tmp w N X R = (N ds loc tmp w)) ∧
  (∀ (N : Kont) (P : Program) (R : Kont) (X : Nat→Kont) (ds : List Nat) (id : Nat) (loc : List Value) (m : Nat) (n : Nat) (ops : Array Oper) (ro : Option Nat) (tmp : List (Nat×Value)) (w : World), codeV P ro n m (.region id ops true) ds loc tmp w N X R = (SemV P ro n m (.region id ops true) ds loc [] w (mkQ N X R))) ∧
  (∀ (N : Kont) (P : Program) (R : Kont) (X : Nat→Kont) (ds : List Nat) (id : Nat) (loc : List Value) (m : Nat) (n : Nat) (ops : Array Oper) (ro : Option Nat) (tmp : List (Nat×Value)) (w : World), codeV P ro n m (.region id ops false) ds loc tmp w N X R = (∀ base, opsV P n base ops.toList ds ops.toList loc [] w N)) ∧
  (∀ (N : Kont) (P : Program) (R : Kont) (X : Nat→Kont) (c1 : Code) (c2 : Code) (ds : List Nat) (loc : List Value) (m : Nat) (n : Nat) (ro : Option Nat) (tmp : List (Nat×Value)) (w : World), codeV P ro n m (.seq c1 c2) ds loc tmp w N X R = (codeV P ro n m c1 ds loc tmp w (fun ds loc tmp w => codeV P ro n m c2 ds loc tmp w N X R) X R)) ∧
  (∀ (N : Kont) (P : Program) (R : Kont) (X : Nat→Kont) (c1 : Code) (c2 : Code) (ds : List Nat) (loc : List Value) (m : Nat) (n : Nat) (ro : Option Nat) (tmp : List (Nat×Value)) (w : World) (x : Operand), codeV P ro n m (.cond x c1 c2) ds loc tmp w N X R = (∀ base, CondP (ev n base loc tmp x) (codeV P ro n m c1 ds loc tmp w N X R) (codeV P ro n m c2 ds loc tmp w N X R))) ∧
  (∀ (N : Kont) (P : Program) (R : Kont) (X : Nat→Kont) (c1 : Code) (ds : List Nat) (loc : List Value) (m : Nat) (n : Nat) (ro : Option Nat) (tmp : List (Nat×Value)) (w : World), codeV P ro n m (.scope c1) ds loc tmp w N X R = (codeV P ro n m c1 ds loc tmp w N X R)) ∧
  (∀ (N : Kont) (P : Program) (R : Kont) (X : Nat→Kont) (ds : List Nat) (i : Nat) (loc : List Value) (m : Nat) (n : Nat) (ro : Option Nat) (tmp : List (Nat×Value)) (w : World), codeV P ro n m (.label i) ds loc tmp w N X R = (N ds loc tmp w)) ∧
  (∀ (N : Kont) (P : Program) (R : Kont) (X : Nat→Kont) (c1 : Code) (ds : List Nat) (i : Nat) (loc : List Value) (m : Nat) (n : Nat) (ro : Option Nat) (tmp : List (Nat×Value)) (w : World), codeV P ro n m (.block i c1) ds loc tmp w N X R = (codeV P ro n m c1 ds loc tmp w N (fun j => if j = i then N else X j) R)) ∧
  (∀ (N : Kont) (P : Program) (R : Kont) (X : Nat→Kont) (c1 : Code) (ds : List Nat) (loc : List Value) (m : Nat) (n : Nat) (ro : Option Nat) (tmp : List (Nat×Value)) (w : World), codeV P ro n m (.loop c1) ds loc tmp w N X R = (SemV P ro n m (.loop c1) ds loc [] w (mkQ N X R))) ∧
  (∀ (N : Kont) (P : Program) (R : Kont) (X : Nat→Kont) (ds : List Nat) (i : Nat) (loc : List Value) (m : Nat) (n : Nat) (ro : Option Nat) (tmp : List (Nat×Value)) (w : World), codeV P ro n m (.exit i) ds loc tmp w N X R = (X i ds loc tmp w)) ∧
  (∀ (N : Kont) (P : Program) (R : Kont) (X : Nat→Kont) (ds : List Nat) (loc : List Value) (m : Nat) (n : Nat) (ro : Option Nat) (tmp : List (Nat×Value)) (w : World), codeV P ro n m (.ret) ds loc tmp w N X R = (R ds loc tmp w)) ∧
  (∀ (N : Kont) (P : Program) (R : Kont) (X : Nat→Kont) (c1 : Code) (c2 : Code) (ds : List Nat) (loc : List Value) (m : Nat) (n : Nat) (ps : Array Tmp) (ro : Option Nat) (tmp : List (Nat×Value)) (w : World) (x : Operand), codeV P ro n m (.rangeFunc x ps c1 c2) ds loc tmp w N X R = (SemV P ro n m (.rangeFunc x ps c1 c2) ds loc tmp w (mkQ N X R))) ∧
  (∀ (x : Value) (xs : List Value) (y : Value), List.getD (x :: xs) 0 y = (x)) ∧
(∀ (k : Nat), ((k : Int)).toNat = k) ∧
(∀ (k : Nat), k * 1 = k) ∧
(∀ (k : Nat), 0 + k = k) ∧
(∀ (x : Value) (xs : List Value) (y : Value) (k : Nat), List.getD (x :: xs) (k + 1) y = List.getD xs k y) ∧
(∀ (x : Value) (xs : List Value) (v : Value), List.set (x :: xs) 0 v = v :: xs) ∧
(∀ (x : Value) (xs : List Value) (v : Value) (k : Nat), List.set (x :: xs) (k + 1) v = x :: List.set xs k v) ∧
(∀ (o : Oper) (l : List Oper), (o :: l)[0]? = some o) ∧
(∀ (o : Oper) (l : List Oper) (k : Nat), (o :: l)[k + 1]? = l[k]?) ∧
(∀ (o : Value) (l : List Value), (o :: l)[0]? = some o) ∧
(∀ (o : Value) (l : List Value) (k : Nat), (o :: l)[k + 1]? = l[k]?) ∧
(∀ (f : Operand → Value), List.map f [] = []) ∧
(∀ (f : Operand → Value) (x : Operand) (l : List Operand), List.map f (x :: l) = f x :: List.map f l) ∧
(∀ (f : Operand → Value) (l : List Operand), Array.map f (List.toArray l) = List.toArray (List.map f l)) ∧
(∀ (l : List Operand), (List.toArray l).toList = l) ∧
(∀ (l : List Value), (List.toArray l).toList = l) ∧
(∀ (l : List Oper), (List.toArray l).toList = l) ∧
(∀ (l : List Value), (List.toArray l).size = l.length) ∧
(∀ (x : Value) (l : List Value), (x :: l).length = l.length + 1) ∧
(([] : List Value).length = 0) ∧
(∀ (l l2 : List Value), List.toArray l ++ List.toArray l2 = List.toArray (l ++ l2)) ∧
(∀ (l : List Value), [] ++ l = l) ∧
(∀ (x : Value) (l l2 : List Value), (x :: l) ++ l2 = x :: (l ++ l2)) ∧
(∀ (x : Value), List.replicate 0 x = []) ∧
(∀ (x : Value) (k : Nat), List.replicate (k + 1) x = x :: List.replicate k x) ∧
(∀ (x y : TypeId) (l : List TypeId), (List.toArray (x :: l)).getD 0 y = x) ∧
(∀ (f : Operand → Value) (x : Operand), Option.map f (some x) = some (f x)) ∧
(∀ (f : Operand → Value), Option.map f none = none) ∧
(∀ (p : Prop), (∀ _ : Nat → Value, p) = p) ∧
(∀ (p : Prop), (True ∧ p) = p) ∧
(∀ (p : Prop), (p ∧ True) = p) ∧
(∀ (k : IntKind), (k = k) = True) ∧
(∀ (a : Option Addr) (k l : Nat), sh (sh a k) l = sh a (k + l)) ∧
(∀ (a : Option Addr), sh a 0 = a) ∧
(∀ (a : Option Addr) (k : Nat), (sh a k).isSome = a.isSome) ∧
(∀ (a : Addr), (some a).isSome = true) ∧
((true = true) = True) ∧
(∀ (f : Operand → Value) (ps : List (Nat × Operand)), Array.map (fun (x : Nat × Operand) => match x with | (i, x) => (i, f x)) (List.toArray ps) = List.toArray (List.map (fun (x : Nat × Operand) => (x.1, f x.2)) ps)) ∧
(∀ (f : Operand → Value), List.map (fun (x : Nat × Operand) => (x.1, f x.2)) [] = []) ∧
(∀ (f : Operand → Value) (i : Nat) (x : Operand) (ps : List (Nat × Operand)), List.map (fun (x : Nat × Operand) => (x.1, f x.2)) ((i, x) :: ps) = (i, f x) :: List.map (fun (x : Nat × Operand) => (x.1, f x.2)) ps) := by
  refine ⟨?_, ?_, ?_, ?_, ?_, ?_, ?_, ?_, ?_, ?_, ?_, ?_, ?_, ?_, ?_, ?_, ?_, ?_, ?_, ?_, ?_, ?_, ?_, ?_, ?_, ?_, ?_, ?_, ?_, ?_, ?_, ?_, ?_, ?_, ?_, ?_, ?_, ?_, ?_, ?_, ?_, ?_, ?_, ?_, ?_, ?_, ?_, ?_, ?_, ?_, ?_, ?_, ?_, ?_, ?_, ?_, ?_, ?_, ?_, ?_, ?_, ?_, ?_, ?_, ?_, ?_, ?_, ?_, ?_, ?_, ?_, ?_, ?_, ?_, ?_, ?_, ?_, ?_, ?_, ?_, ?_, ?_, ?_, ?_, ?_, ?_, ?_, ?_, ?_, ?_, ?_, ?_, ?_, ?_, ?_, ?_, ?_, ?_, ?_, ?_, ?_, ?_, ?_, ?_, ?_, ?_, ?_, ?_, ?_, ?_, ?_, ?_, ?_, ?_, ?_, ?_, ?_, ?_, ?_, ?_, ?_, ?_, ?_, ?_, ?_, ?_, ?_, ?_, ?_, ?_, ?_, ?_, ?_, ?_, ?_, ?_, ?_, ?_, ?_, ?_, ?_, ?_, ?_, ?_, ?_, ?_, ?_, ?_, ?_, ?_, ?_, ?_, ?_, ?_, ?_, ?_, ?_, ?_, ?_, ?_, ?_, ?_, ?_, ?_, ?_, ?_, ?_, ?_, ?_, ?_, ?_, ?_, ?_, ?_, ?_, ?_, ?_, ?_, ?_, ?_, ?_, ?_, ?_, ?_, ?_, ?_, ?_, ?_, ?_, ?_, ?_, ?_, ?_, ?_, ?_, ?_, ?_, ?_, ?_, ?_, ?_, ?_, ?_, ?_, ?_, ?_, ?_, ?_, ?_, ?_, ?_, ?_, ?_, ?_, ?_, ?_, ?_, ?_, ?_, ?_⟩ <;> (intros; first | rfl | (simp only [GuardP.undef, GuardP.undef', GuardP.tt, GuardP.ff, GuardP.tf, GuardP.ft, CondP.t, CondP.f]; done) | (simp [sh_sh, sh_zero, sh_isSome]; done))
end Go.E
