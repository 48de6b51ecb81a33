/-
  THE ENGINE, PART C: regions, code, loops: what must be shown suffices. Over any program. No condition.
-/
import Derived.Test.YtloeiefijmbkiaaEngB
import Derived.Orders
set_option linter.unusedSimpArgs false
set_option linter.unusedVariables false
set_option linter.unusedSectionVars false
namespace Go.E

/-- the fence of a round of a range over a function, or of none -/
def fz (ro : Option Nat) : Fence := { Fence.wide with round := ro }
theorem fz_fn {ro : Option Nat} (f : FuncId) : (fz ro).fn f := trivial
theorem fz_depth {ro : Option Nat} {p : Prop} : (fz ro).depth.isSome = true → p := fun h => by cases h
/-- a mark among the deferred calls -/
def markOf (r : Nat) : Deferred := { target := .collected r, args := #[] }

/-- the state of a frame: the marks; slots below n in loc, the others of late in tmp; m slots in all -/
structure Fits' (n m : Nat) (ds : List Nat) (loc : List Value) (tmp : List (Nat × Value)) (a : Act) : Prop where
  base : ∃ base, Agree n base loc tmp a
  size : a.tmps.size = m
  defers : a.defers = ds.map markOf

theorem Fits'.clear {n m : Nat} {ds : List Nat} {loc : List Value} {tmp : List (Nat × Value)} {a : Act} (h : Fits' n m ds loc tmp a) : Agree n (fun t => a.tmps.getD t undef) loc [] a := by
  obtain ⟨_, h1, h2, h3, _⟩ := h.base
  exact ⟨h1, h2, h3, fun t _ => rfl⟩
theorem Fits'.cleared {n m : Nat} {ds : List Nat} {loc : List Value} {tmp : List (Nat × Value)} {a : Act} (h : Fits' n m ds loc tmp a) : Fits' n m ds loc [] a :=
  ⟨⟨_, h.clear⟩, h.size, h.defers⟩

/-! ### Operations in a row -/
def gvalo (o : Option Oper) (look : Operand → Value) : Value :=
  match o with
  | some o => (match o.dst with | some t => look (.tmp t) | none => undef)
  | none => undef
def gval (ops : List Oper) (j : Nat) (look : Operand → Value) : Value := gvalo ops[j]? look
/-- an operation under its guard: A: it runs; B: it does not -/
def grdV (ops : List Oper) (o : Oper) (look : Operand → Value) (A B : Prop) (_ : Tag A := .mk) (_ : Tag B := .mk) : Prop :=
  match o.guard with
  | none => A
  | some (j, want) => GuardP (gval ops j look) want A B

def opsV (P : Program) (n : Nat) (base : Nat → Value) (ops : List Oper) (ds : List Nat) : List Oper → List Value → List (Nat × Value) → World → (K : Kont) → (_ : Tag K := .mk) → Prop
  | [], loc, tmp, w, K, _ => K ds loc tmp w
  | o :: r, loc, tmp, w, K, _ =>
    grdV ops o (ev n base loc tmp)
      (opV P (ev n base loc tmp) o.op o.type w fun v w' => putK n o.dst v loc tmp fun loc tmp => opsV P n base ops ds r loc tmp w' K)
      (putK n o.dst undef loc tmp fun loc tmp => opsV P n base ops ds r loc tmp w K)

theorem grdV_wanted {ops : List Oper} {o : Oper} {a : Act} {A B : Prop} (h : grdV ops o a.eval A B) :
    (Region.wanted o (yielded ops.toArray a.tmps) = true ∧ A) ∨ (Region.wanted o (yielded ops.toArray a.tmps) = false ∧ B) := by
  unfold grdV at h
  unfold Region.wanted
  cases hg : o.guard with
  | none => rw [hg] at h; exact .inl ⟨rfl, h⟩
  | some jw =>
    obtain ⟨j, want⟩ := jw
    rw [hg] at h
    simp only at h ⊢
    obtain ⟨h1, h2⟩ := h
    have key : (yielded ops.toArray a.tmps j = some want) ↔ gval ops j a.eval = .bool want := by
      unfold yielded gval gvalo
      cases ho : ops[j]? with
      | none => simp [ho, Go.undef]
      | some o' =>
        cases hd : o'.dst with
        | none => simp [ho, hd, Go.undef]
        | some t =>
          simp only [List.getElem?_toArray, ho, Option.bind_some, hd, Act.eval]
          cases ht : a.tmps[t]? with
          | none => simp [ht, Go.undef]
          | some v => cases v <;> simp [ht]
    by_cases hk : gval ops j a.eval = .bool want
    · refine .inl ⟨?_, h1 hk⟩
      rw [key.2 hk]; simp
    · refine .inr ⟨?_, h2 hk⟩
      have : yielded ops.toArray a.tmps j ≠ some want := fun e => hk (key.1 e)
      simpa using this

theorem StepP.plain {P : Program} {ρ : Operand → Value} {o : Oper} {w : World} {K : Value → World → Prop} (h : StepP P (execOp ρ o) w K) : ∀ c, o.op ≠ .defer c := by
  intro c hc
  obtain ⟨dst, op, type, pos, after, guard⟩ := o
  simp only at hc
  subst hc
  simp only [StepP, execOp, Sem.run_bind] at h
  cases hr : (resolve ρ c type).run P w with
  | ok d w' => rw [hr] at h; exact h
  | halt x w' => rw [hr] at h; exact h

theorem StepP.wp {P : Program} {ro : Option Nat} {o : Oper} {a : Act} {w : World} {K : Value → World → Prop} {next : Act → World → Prop} {Q : Exit → Act → World → Prop} (h : StepP P (execOp a.eval o) w K)
    (hk : ∀ v w', K v w' → next (a.put o.dst v) w') : o.wpIn (fz ro) 0 P a w next Q := by
  refine ⟨fun f _ => fz_fn f, ?_⟩
  rw [Oper.semAt_eq _ _ _ h.plain]
  unfold StepP at h
  unfold Oper.uponIn
  generalize (execOp a.eval o).run P w = r at *
  cases r with
  | halt x w' => exact h.elim
  | ok nx w' =>
    cases nx <;> first | exact h.elim | exact hk _ _ h | skip
    · refine ⟨fz_depth, ?_⟩
      have := callsIn_wide (n := 0 - 1).2 h
      exact CallsIn.mono (F := fz ro) this fun e w'' ⟨v, he, hv⟩ => by subst he; exact hk _ _ hv
    · refine ⟨fz_depth, ?_⟩
      exact RoundIn.mono (F := fz ro) h fun e w'' ⟨v, he, hv⟩ => by subst he; exact hk _ _ hv

def dstIn (m : Nat) (o : Oper) : Bool := match o.dst with
  | some t => decide (t < m)
  | none => true
theorem dstIn_spec {m : Nat} {o : Oper} (h : dstIn m o = true) : ∀ t, o.dst = some t → t < m := by
  intro t ht
  unfold dstIn at h
  rw [ht] at h
  simpa using h

theorem opsV_list {P : Program} {ro : Option Nat} {n m : Nat} {base : Nat → Value} {ops : List Oper} {ds : List Nat} {K : Kont} {Q : Exit → Act → World → Prop} :
    ∀ (l : List Oper) (loc : List Value) (tmp : List (Nat × Value)) (w : World) (a : Act), opsV P n base ops ds l loc tmp w K → Agree n base loc tmp a → a.tmps.size = m → a.defers = ds.map markOf → l.all (dstIn m) = true →
      (∀ loc tmp w a, Agree n base loc tmp a → a.tmps.size = m → a.defers = ds.map markOf → K ds loc tmp w → Q .normal a w) → wpListIn (fz ro) 0 P ops.toArray Q l a w
  | [], loc, tmp, w, a, h, ha, hs, hd, _, hK => hK loc tmp w a ha hs hd h
  | o :: r, loc, tmp, w, a, h, ha, hs, hd, hall, hK => by
    simp only [List.all_cons, Bool.and_eq_true] at hall
    obtain ⟨hd1, hall⟩ := hall
    have hdst : ∀ t, o.dst = some t → t < a.tmps.size := by rw [hs]; exact dstIn_spec hd1
    have hnext : ∀ v w', (putK n o.dst v loc tmp fun loc tmp => opsV P n base ops ds r loc tmp w' K) → wpListIn (fz ro) 0 P ops.toArray Q r (a.put o.dst v) w' := by
      intro v w' hv
      obtain ⟨loc', tmp', ha', hv'⟩ := ha.put hdst v hv
      exact opsV_list r loc' tmp' w' _ hv' ha' (by cases o.dst <;> simp [Act.put, hs]) (by cases o.dst <;> simp [Act.put, hd]) hall hK
    simp only [opsV] at h
    rw [← ha.ev] at h
    unfold wpListIn
    rcases grdV_wanted h with ⟨hw, h⟩ | ⟨hw, h⟩
    · rw [if_pos hw]
      exact (opV_step h).wp hnext
    · rw [if_neg (by rw [hw]; simp)]
      exact ⟨fun f _ => fz_fn f, hnext _ _ h⟩

/-! ### Regions that draw their order -/
section draw
variable {P : Program} {ro : Option Nat} {ops : Array Oper} {Q : Exit → Act → World → Prop} {I : World → Prop}

/-- whatever order is drawn: and I holds all the way -/
def AnyI (ro : Option Nat) (P : Program) (ops : Array Oper) (Q : Exit → Act → World → Prop) (cl : Nat) (I : World → Prop) : Nat → Array Bool → Act → World → Prop
  | 0, listed, a, w => (listed.getD cl false = false → I w) ∧ Region.ready .any ops listed = [] ∧ Q .normal a w
  | f + 1, listed, a, w => (listed.getD cl false = false → I w) ∧ (Region.ready .any ops listed = [] → Q .normal a w) ∧
    ∀ i ∈ Region.ready .any ops listed, wpOpIn (fz ro) 0 P ops Q i (AnyI ro P ops Q cl I f (listed.setIfInBounds i true)) a w

theorem AnyI.any {cl : Nat} : ∀ (f : Nat) (listed : Array Bool) (a : Act) (w : World), AnyI ro P ops Q cl I f listed a w → wpAnyIn (fz ro) 0 P .any ops Q f listed a w
  | 0, _, _, _, h => h.2
  | f + 1, _, _, _, h => ⟨h.2.1, fun i hi => wpOpIn_mono (fun a w => AnyI.any f _ a w) (h.2.2 i hi)⟩
theorem AnyI.holds {cl : Nat} : ∀ {f : Nat} {listed : Array Bool} {a : Act} {w : World}, AnyI ro P ops Q cl I f listed a w → listed.getD cl false = false → I w
  | 0, _, _, _, h => h.1
  | _ + 1, _, _, _, h => h.1

/-- in whatever world of the kind I the operation gives v and leaves the world as it is -/
def GivesI (P : Program) (ops : Array Oper) (I : World → Prop) (o : Oper) (v : Value) (a : Act) : Prop :=
  (Region.wanted o (yielded ops a.tmps) = true ∧ ∀ w, I w → (execOp a.eval o).run P w = .ok (.value v) w ∨ ((execOp a.eval o).run P w = .ok .skip w ∧ v = undef)) ∨
  (Region.wanted o (yielded ops a.tmps) = false ∧ v = undef)

theorem GivesI.wpOp {i : Nat} {o : Oper} {v : Value} {a : Act} (hi : ops[i]? = some o) (hy : GivesI P ops I o v a) {K : Act → World → Prop} {w : World} (hI : I w) (h : K (a.put o.dst v) w) :
    wpOpIn (fz ro) 0 P ops Q i K a w := by
  unfold wpOpIn
  simp only [hi]
  rcases hy with ⟨hw, hv⟩ | ⟨hw, rfl⟩
  · rw [if_pos hw]
    refine (StepP.wp (K := fun v' w' => v' = v ∧ w' = w) ?_ fun v' w' ⟨e1, e2⟩ => by rw [e1, e2]; exact h)
    unfold StepP
    rcases hv w hI with e | ⟨e, rfl⟩ <;> rw [e] <;> exact ⟨rfl, rfl⟩
  · rw [if_neg (by rw [hw]; simp)]; exact ⟨fun f _ => fz_fn f, h⟩

theorem GivesI.of_same {o : Oper} {v : Value} {a a' : Act} (hy : GivesI P ops I o v a) (he : execOp a'.eval o = execOp a.eval o)
    (hw : Region.wanted o (yielded ops a'.tmps) = Region.wanted o (yielded ops a.tmps)) : GivesI P ops I o v a' := by
  unfold GivesI at *
  rw [he, hw]
  exact hy

/-- another operation may come first: apart from ours -/
theorem wpOp_swap {j : Nat} {oi oj : Oper} {v : Value} (hj : ops[j]? = some oj) (hap : oi.apart ops oj = true)
    (hsi : ∀ cs b, oi.op ≠ .select cs b) (hsj : ∀ cs b, oj.op ≠ .select cs b) (hdj : ∀ c, oj.op ≠ .defer c) (hQ : ∀ c a w, Q (.panic c) (a.put oi.dst v) w → Q (.panic c) a w)
    {K : Act → World → Prop} {a : Act} {w : World} (hy : GivesI P ops I oi v a) (h : wpOpIn (fz ro) 0 P ops Q j K (a.put oi.dst v) w) :
    wpOpIn (fz ro) 0 P ops Q j (fun a' w' => GivesI P ops I oi v a' ∧ K (a'.put oi.dst v) w') a w := by
  obtain ⟨h1, h2, h3⟩ := Oper.apart_spec hap
  have keep : ∀ u, GivesI P ops I oi v (a.put oj.dst u) := fun u => hy.of_same (execOp_put oi hsi a oj.dst u h3) (wanted_put oi a oj.dst u h3)
  have keepD : ∀ d u, GivesI P ops I oi v (({ a with defers := d :: a.defers } : Act).put oj.dst u) := fun d u =>
    (hy.of_same (a' := { a with defers := d :: a.defers }) rfl rfl).of_same (execOp_put oi hsi _ oj.dst u h3) (wanted_put oi _ oj.dst u h3)
  have he := execOp_put (ops := ops) oj hsj a oi.dst v h1
  have hw := wanted_put (ops := ops) oj a oi.dst v h1
  unfold wpOpIn at h ⊢
  simp only [hj] at h ⊢
  rw [hw] at h
  by_cases hwant : Region.wanted oj (yielded ops a.tmps) = true
  · rw [if_pos hwant] at h ⊢
    refine ⟨fun f _ => fz_fn f, ?_⟩
    have h := h.2
    rw [Oper.semAt_eq _ _ _ hdj] at h ⊢
    rw [he] at h
    generalize (execOp a.eval oj).run P w = r at h ⊢
    cases r with
    | halt x w' => cases x <;> first | exact hQ _ _ _ h | exact h
    | ok nx w' =>
      cases nx <;> first | exact h.elim | skip
      · exact ⟨keep _, by rw [← Act.put_comm a v _ h2]; exact h⟩
      · exact ⟨keep _, by rw [← Act.put_comm a v _ h2]; exact h⟩
      · refine ⟨h.1, CallsIn.mono h.2 fun e w'' hr => ?_⟩
        cases e with
        | returned u => exact ⟨keep u, by rw [← Act.put_comm a v u h2]; exact hr⟩
        | panicked c => exact hQ _ _ _ hr
        | outgrown => exact hr
      · refine ⟨h.1, RoundIn.mono h.2 fun e w'' hr => ?_⟩
        cases e with
        | returned u => exact ⟨keep u, by rw [← Act.put_comm a v u h2]; exact hr⟩
        | panicked c => exact hQ _ _ _ hr
        | outgrown => exact hr
      · refine ⟨keepD _ _, ?_⟩
        rw [← Act.put_comm _ v undef h2, ← Act.put_defers]
        exact h
      · exact ⟨h.1, RowsIn.mono h.2 fun u w'' hr => ⟨keep u, by rw [← Act.put_comm a v u h2]; exact hr⟩⟩
  · rw [if_neg hwant] at h ⊢
    exact ⟨fun f _ => fz_fn f, keep _, by rw [← Act.put_comm a v undef h2]; exact h.2⟩

theorem GivesI.mono {I J : World → Prop} {o : Oper} {v : Value} {a : Act} (hy : GivesI P ops I o v a) (h : ∀ w, J w → I w) : GivesI P ops J o v a := by
  rcases hy with ⟨h1, h2⟩ | h2
  · exact .inl ⟨h1, fun w hw => h2 w (h w hw)⟩
  · exact .inr h2

theorem AnyI_first {J : World → Prop} {cl i : Nat} {oi : Oper} {v : Value}
    (hcb : (∀ w, J w) ∨ ((∀ w, I w → J w) ∧ ∀ oc, ops[cl]? = some oc → ∃ e ∈ oc.after, Region.binds .any e = true ∧ e.on = i)) (hci : cl ≠ i) (hi : ops[i]? = some oi) (hsel : ∀ (j : Nat) (o : Oper) cs b, ops[j]? = some o → o.op ≠ .select cs b) (hdef : ∀ (j : Nat) (o : Oper) c, ops[j]? = some o → o.op ≠ .defer c)
    (hQ : ∀ c a w, Q (.panic c) (a.put oi.dst v) w → Q (.panic c) a w) :
    ∀ (f : Nat) (listed : Array Bool) (a : Act) (w : World),
      (∀ j oj, ops[j]? = some oj → j ≠ i → listed.getD j true = false → (∀ e ∈ oj.after, Region.binds .any e = true → e.on ≠ i) → oi.apart ops oj = true) →
      ((∀ w, J w) ∨ listed.getD cl false = false) → i ∈ Region.ready .any ops listed → GivesI P ops J oi v a → AnyI ro P ops Q cl I f (listed.setIfInBounds i true) (a.put oi.dst v) w → AnyI ro P ops Q cl I (f + 1) listed a w := by
  have hIJ : ∀ (listed : Array Bool) (w : World), ((∀ w, J w) ∨ listed.getD cl false = false) → (listed.getD cl false = false → I w) → J w := by
    intro listed w hc h
    rcases hc with h1 | h1
    · exact h1 w
    · rcases hcb with h2 | h2
      · exact h2 w
      · exact h2.1 w (h h1)
  intro f
  induction f with
  | zero =>
    intro listed a w _ hc hr hy H
    have hI : listed.getD cl false = false → I w := fun hl => H.1 (by rw [getD_set_ne false (Ne.symm hci)]; exact hl)
    refine ⟨hI, fun h => (by rw [h] at hr; cases hr), fun j hj => ?_⟩
    by_cases hji : j = i
    · subst hji; exact hy.wpOp hi (hIJ _ w hc hI) H
    · have := ready_mono hj hji
      rw [H.2.1] at this
      cases this
  | succ f ih =>
    intro listed a w hfree hc hr hy H
    have hI : listed.getD cl false = false → I w := fun hl => H.1 (by rw [getD_set_ne false (Ne.symm hci)]; exact hl)
    refine ⟨hI, fun h => (by rw [h] at hr; cases hr), fun j hj => ?_⟩
    by_cases hji : j = i
    · subst hji; exact hy.wpOp hi (hIJ _ w hc hI) H
    · obtain ⟨hjun, oj, hoj, hall⟩ := mem_ready.1 hj
      have hun : listed.getD i true = false := (mem_ready.1 hr).1
      have hnot : ∀ e ∈ oj.after, Region.binds .any e = true → e.on ≠ i := by
        intro e he hb heq
        have h1 := hall e he hb
        rw [heq] at h1
        by_cases hl : i < listed.size
        · simp [hl] at h1 hun; rw [hun] at h1; cases h1
        · simp [Array.getElem?_eq_none (Nat.le_of_not_lt hl)] at h1
      have h2 := wpOp_swap hoj (hfree j oj hoj hji hjun hnot) (fun cs b => hsel i oi cs b hi) (fun cs b => hsel j oj cs b hoj) (fun c => hdef j oj c hoj) hQ hy (H.2.2 j (ready_mono hj hji))
      have hc' : (∀ w, J w) ∨ (listed.setIfInBounds j true).getD cl false = false := by
        rcases hc with h1 | h1
        · exact .inl h1
        · rcases hcb with h3 | h3
          · exact .inl h3
          · refine .inr ?_
            have hjc : j ≠ cl := by
              rintro rfl
              obtain ⟨e, he, hb, heq⟩ := h3.2 oj hoj
              exact hnot e he hb heq
            rw [getD_set_ne false hjc]; exact h1
      refine wpOpIn_mono (fun a' w' h3 => ih (listed.setIfInBounds j true) a' w' ?_ hc' (ready_mono hr (Ne.symm hji)) h3.1 ?_) h2
      · intro k ok hk hki hkun hno
        refine hfree k ok hk hki ?_ hno
        by_cases hjk : j = k
        · subst hjk; exact hjun
        · rw [getD_set_ne true hjk] at hkun; exact hkun
      · rw [Array.setIfInBounds_comm _ _ hji]
        exact h3.2

/-- an operation that never looks at the world -/
def pureOp : Op → Bool
  | .move _ => true
  | .assign _ => true
  | .pick _ _ _ => true
  | .nilCheck _ => true
  | .fieldAddr _ _ _ => true
  | .extract _ _ => true
  | .makeFunc _ _ _ => true
  | .makeInterface _ _ => true
  | _ => false
theorem floatV_pure {ρ : Operand → Value} {o : Op} {ty : TypeId} {I : World → Prop} {K : Value → Prop} (hp : pureOp o = true) (h : floatV P ρ o ty I K) : floatV P ρ o ty (fun _ => True) K := by
  cases o <;> first | exact h | cases hp

def noDefer (ops : Array Oper) : Bool := ops.all fun o => match o.op with | .defer _ => false | _ => true
theorem noDefer_spec {ops : Array Oper} (h : noDefer ops = true) (j : Nat) (o : Oper) (c : Call) (ho : ops[j]? = some o) : o.op ≠ .defer c := by
  intro heq
  have := Array.all_eq_true_iff_forall_mem.1 h o (Array.mem_of_getElem? ho)
  simp [heq] at this

/-- a plan: in which order the operations are looked at; true: it floats -/
def planOK (ops : Array Oper) (cl : Nat) : List (Nat × Bool) → Array Bool → Bool
  | [], listed => (Region.ready .any ops listed).isEmpty
  | (i, fl) :: r, listed =>
    (if fl then (Region.ready .any ops listed).contains i && Region.free .any ops listed i && (cl != i && ((match ops[i]? with | none => false | some oi => pureOp oi.op) || (!(listed.getD cl false) && (match ops[cl]? with | none => true | some oc => oc.after.any fun e => Region.binds .any e && e.on == i))))
     else Region.ready .any ops listed == [i] && (if r.isEmpty then i == cl && decide (i < listed.size) else !(listed.getD cl false) && i != cl)) &&
    planOK ops cl r (listed.setIfInBounds i true)
/-- which operation ends the region: behind it nothing floats -/
def clOf (ops : Array Oper) (pl : List (Nat × Bool)) : Nat := match pl.getLast? with
  | some (i, false) => i
  | _ => ops.size

def planO (n : Nat) (base : Nat → Value) (ops : List Oper) (o : Option Oper) (loc : List Value) (tmp : List (Nat × Value)) (A : Oper → Prop) (B : Oper → Prop) (_ : Tag A := .mk) (_ : Tag B := .mk) : Prop :=
  match o with
  | none => False
  | some o => grdV ops o (ev n base loc tmp) (A o) (B o)
def planV (P : Program) (n : Nat) (base : Nat → Value) (ops : List Oper) (I : World → Prop) (ds : List Nat) : List (Nat × Bool) → List Value → List (Nat × Value) → World → (K : Kont) → (_ : Tag K := .mk) → (_ : Tag I := .mk) → Prop
  | [], loc, tmp, w, K, _, _ => K ds loc tmp w
  | (i, true) :: r, loc, tmp, w, K, _, _ => planO n base ops ops[i]? loc tmp
    (fun o => floatV P (ev n base loc tmp) o.op o.type I fun v => putK n o.dst v loc tmp fun loc tmp => planV P n base ops I ds r loc tmp w K)
    (fun o => putK n o.dst undef loc tmp fun loc tmp => planV P n base ops I ds r loc tmp w K)
  | [(i, false)], loc, tmp, w, K, _, _ => planO n base ops ops[i]? loc tmp
    (fun o => opV P (ev n base loc tmp) o.op o.type w fun v w' => putK n o.dst v loc tmp fun loc tmp => K ds loc tmp w')
    (fun o => putK n o.dst undef loc tmp fun loc tmp => K ds loc tmp w)
  | (i, false) :: j :: r, loc, tmp, w, K, _, _ => planO n base ops ops[i]? loc tmp
    (fun o => opV P (ev n base loc tmp) o.op o.type w fun v w' => I w' ∧ putK n o.dst v loc tmp fun loc tmp => planV P n base ops I ds (j :: r) loc tmp w' K)
    (fun o => putK n o.dst undef loc tmp fun loc tmp => planV P n base ops I ds (j :: r) loc tmp w K)

theorem planV_any {n m cl : Nat} {base : Nat → Value} {l : List Oper} {ds : List Nat} {K : Kont} (hsel : Region.noSelect l.toArray = true) (hdef : noDefer l.toArray = true) (hQ : ∀ c (a a' : Act) w, Q (.panic c) a w → Q (.panic c) a' w) (hall : l.all (dstIn m) = true) :
    ∀ (pl : List (Nat × Bool)) (listed : Array Bool) (loc : List Value) (tmp : List (Nat × Value)) (w : World) (a : Act), planV P n base l I ds pl loc tmp w K → planOK l.toArray cl pl listed = true → (listed.getD cl false = false → I w) →
      Agree n base loc tmp a → a.tmps.size = m → a.defers = ds.map markOf →
      (∀ loc tmp w a, Agree n base loc tmp a → a.tmps.size = m → a.defers = ds.map markOf → K ds loc tmp w → Q .normal a w) → AnyI ro P l.toArray Q cl I pl.length listed a w
  | [], listed, loc, tmp, w, a, h, hpl, hI, ha, hs, hd, hK => by
    simp only [planOK, List.isEmpty_iff] at hpl
    exact ⟨hI, hpl, hK loc tmp w a ha hs hd h⟩
  | (i, fl) :: r, listed, loc, tmp, w, a, h, hpl, hI, ha, hs, hd, hK => by
    rw [planOK, Bool.and_eq_true] at hpl
    obtain ⟨hpl1, hpl2⟩ := hpl
    cases ho : l[i]? with
    | none => cases fl <;> cases r <;> (simp only [planV, ho, planO] at h)
    | some o =>
      have hoi : l.toArray[i]? = some o := by simpa using ho
      have hmem : o ∈ l := List.mem_of_getElem? ho
      have hd1 : dstIn m o = true := List.all_eq_true.1 hall o hmem
      have hdst : ∀ t, o.dst = some t → t < a.tmps.size := by rw [hs]; exact dstIn_spec hd1
      have hnext : ∀ v w', ((listed.setIfInBounds i true).getD cl false = false → I w') → (putK n o.dst v loc tmp fun loc tmp => planV P n base l I ds r loc tmp w' K) → AnyI ro P l.toArray Q cl I r.length (listed.setIfInBounds i true) (a.put o.dst v) w' := by
        intro v w' hI' hv
        obtain ⟨loc', tmp', ha', hv'⟩ := ha.put hdst v hv
        exact planV_any hsel hdef hQ hall r _ loc' tmp' w' _ hv' hpl2 hI' ha' (by cases o.dst <;> simp [Act.put, hs]) (by cases o.dst <;> simp [Act.put, hd]) hK
      cases fl with
      | true =>
        simp only [planV, ho, planO] at h
        rw [← ha.ev] at h
        simp only [if_true, Bool.and_eq_true, List.contains_iff_mem, Bool.or_eq_true, Bool.not_eq_true', bne_iff_ne, ne_eq, hoi] at hpl1
        obtain ⟨⟨hp1, hp2⟩, hp4, hp3⟩ := hpl1
        have hnext' : ∀ v, (putK n o.dst v loc tmp fun loc tmp => planV P n base l I ds r loc tmp w K) → AnyI ro P l.toArray Q cl I r.length (listed.setIfInBounds i true) (a.put o.dst v) w := fun v hk =>
          hnext v w (fun hl => hI (by rw [getD_set_ne false (Ne.symm hp4)] at hl; exact hl)) hk
        rcases hp3 with hp3 | ⟨hp3, hp5⟩
        · have hgive : ∃ v, GivesI P l.toArray (fun _ => True) o v a ∧ putK n o.dst v loc tmp fun loc tmp => planV P n base l I ds r loc tmp w K := by
            rcases grdV_wanted h with ⟨hw, h⟩ | ⟨hw, h⟩
            · obtain ⟨v, hv, hk⟩ := floatV_run (floatV_pure hp3 h)
              exact ⟨v, .inl ⟨hw, hv⟩, hk⟩
            · exact ⟨undef, .inr ⟨hw, rfl⟩, h⟩
          obtain ⟨v, hg, hk⟩ := hgive
          exact AnyI_first (.inl fun _ => trivial) hp4 hoi (Region.noSelect_spec hsel) (noDefer_spec hdef) (fun c a w => hQ c _ _ w) r.length listed a w (fun j oj hj hne hun hno => Region.free_spec hoi hp2 j oj hj hne hun hno) (.inl fun _ => trivial) hp1 hg (hnext' v hk)
        · have hgive : ∃ v, GivesI P l.toArray I o v a ∧ putK n o.dst v loc tmp fun loc tmp => planV P n base l I ds r loc tmp w K := by
            rcases grdV_wanted h with ⟨hw, h⟩ | ⟨hw, h⟩
            · obtain ⟨v, hv, hk⟩ := floatV_run h
              exact ⟨v, .inl ⟨hw, hv⟩, hk⟩
            · exact ⟨undef, .inr ⟨hw, rfl⟩, h⟩
          obtain ⟨v, hg, hk⟩ := hgive
          refine AnyI_first (.inr ⟨fun _ h => h, fun oc hoc => ?_⟩) hp4 hoi (Region.noSelect_spec hsel) (noDefer_spec hdef) (fun c a w => hQ c _ _ w) r.length listed a w (fun j oj hj hne hun hno => Region.free_spec hoi hp2 j oj hj hne hun hno) (.inr hp3) hp1 hg (hnext' v hk)
          rw [hoc] at hp5
          obtain ⟨k, hk, hk'⟩ := Array.any_eq_true.1 hp5
          simp only [Bool.and_eq_true, beq_iff_eq] at hk'
          exact ⟨_, Array.getElem_mem hk, hk'⟩
      | false =>
        simp only [Bool.false_eq_true, if_false, beq_iff_eq, Bool.and_eq_true] at hpl1
        obtain ⟨hp1, hp2⟩ := hpl1
        refine ⟨hI, fun e => (by rw [e] at hp1; cases hp1), fun j hj => ?_⟩
        rw [hp1, List.mem_singleton] at hj
        subst hj
        unfold wpOpIn
        simp only [hoi]
        cases r with
        | nil =>
          simp only [List.isEmpty_nil, if_true, Bool.and_eq_true, beq_iff_eq, decide_eq_true_eq] at hp2
          have hlst : ∀ w', (listed.setIfInBounds j true).getD cl false = false → I w' := by
            intro w' hf
            rw [← hp2.1] at hf
            simp [Array.getD, hp2.2] at hf
          simp only [planV, ho, planO] at h
          rw [← ha.ev] at h
          rcases grdV_wanted h with ⟨hw, h⟩ | ⟨hw, h⟩
          · rw [if_pos hw]
            exact (opV_step h).wp fun v w' hk => hnext v w' (hlst w') (by simpa only [planV] using hk)
          · rw [if_neg (by rw [hw]; simp)]
            exact ⟨fun f _ => fz_fn f, hnext _ _ (hlst w) (by simpa only [planV] using h)⟩
        | cons k r =>
          simp only [List.isEmpty_cons, Bool.false_eq_true, if_false, Bool.and_eq_true, Bool.not_eq_true', bne_iff_ne, ne_eq] at hp2
          simp only [planV, ho, planO] at h
          rw [← ha.ev] at h
          rcases grdV_wanted h with ⟨hw, h⟩ | ⟨hw, h⟩
          · rw [if_pos hw]
            exact (opV_step h).wp fun v w' ⟨hI', hk⟩ => hnext v w' (fun _ => hI') hk
          · rw [if_neg (by rw [hw]; simp)]
            exact ⟨fun f _ => fz_fn f, hnext _ _ (fun _ => hI hp2.1) h⟩
end draw
end Go.E
